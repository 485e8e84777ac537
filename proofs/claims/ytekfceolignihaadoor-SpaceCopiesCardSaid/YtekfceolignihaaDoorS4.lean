/- 'New'. -/
import Derived.Test.YtekfceolignihaaDoorS3
import Derived.Laws.MakeOwn
namespace Go.Proofs.YtekfceolignihaaDoor
open Go.RowKit
set_option linter.unusedVariables false
set_option linter.unusedSimpArgs false
attribute [local go_sem] cell_set set_set m_undef

theorem infoI : (Tryd.prog.info? 3).map (fun i => (i.zero, i.size, i.bytes)) = some (some (.int .i64 0), 1, 8) := by kernel_rfl
theorem madeI (w : World) (N : Nat) (hN : N ≤ 1000000) : (Instr.makeSlice 32 (.int .i64 (N : Int)) (.int .i64 (N : Int))).run Tryd.prog w = .ok (.slice (some ⟨w.heap.size, 0, none⟩) N N) (w.alloc (.cells (ints (List.replicate N 0) ++ []).toArray 3)) := by
  obtain ⟨i, hi1, hi2⟩ := Option.map_eq_some_iff.1 infoI
  simp only [Prod.mk.injEq] at hi2
  obtain ⟨hz, hs1, hb1⟩ := hi2
  have h := run_make (P := Tryd.prog) w 32 3 i (.int .i64 0) Tryd.underlying32 hi1 hz .i64 .i64 (N : Int) (N : Int) (by omega) (Int.le_refl _) (by rw [hb1]; omega) (by omega)
  rw [h]
  have e : madeCells (Value.int IntKind.i64 0).cells ((N : Int).toNat * i.size) = (ints (List.replicate N 0) ++ []).toArray := by
    rw [hs1, Int.toNat_natCast, Nat.mul_one, List.append_nil]
    apply Array.ext
    · simp [madeCells, ints, Value.cells]
    · intro j h1 h2
      simp [madeCells, ints, Value.cells, Nat.mod_one]
  rw [e]
  simp
theorem infoW : (Tryd.prog.info? 48).map (fun i => (i.zero, i.size, i.bytes)) = some (some (.int .u64 0), 1, 8) := by kernel_rfl
theorem madeW (w : World) (N : Nat) (hN : N ≤ 1000000) : (Instr.makeSlice 42 (.int .i64 (N : Int)) (.int .i64 (N : Int))).run Tryd.prog w = .ok (.slice (some ⟨w.heap.size, 0, none⟩) N N) (w.alloc (.cells (words (List.replicate N 0) ++ []).toArray 48)) := by
  obtain ⟨i, hi1, hi2⟩ := Option.map_eq_some_iff.1 infoW
  simp only [Prod.mk.injEq] at hi2
  obtain ⟨hz, hs1, hb1⟩ := hi2
  have h := run_make (P := Tryd.prog) w 42 48 i (.int .u64 0) Tryd.underlying42 hi1 hz .i64 .i64 (N : Int) (N : Int) (by omega) (Int.le_refl _) (by rw [hb1]; omega) (by omega)
  rw [h]
  have e : madeCells (Value.int IntKind.u64 0).cells ((N : Int).toNat * i.size) = (words (List.replicate N 0) ++ []).toArray := by
    rw [hs1, Int.toNat_natCast, Nat.mul_one, List.append_nil]
    apply Array.ext
    · simp [madeCells, words, Value.cells]
    · intro j h1 h2
      simp [madeCells, words, Value.cells, Nat.mod_one]
  rw [e]
  simp

/-- A free sector more. -/
def stepF (F : List Int) (k : Nat) : List Int := F.set (k / 64) (bits .or .u64 (F.getD (k / 64) 0) (bitV k))
/-- The words of n sectors, those ahead of k marked. -/
def newFk (n k : Nat) : List Int := (List.range' 2 (k - 2)).foldl stepF (List.replicate (n / 64 + 1) 0)
theorem newFk_two (n : Nat) : newFk n 2 = List.replicate (n / 64 + 1) 0 := rfl
theorem newFk_next (n k : Nat) (h : 2 ≤ k) : newFk n (k + 1) = stepF (newFk n k) k := by
  unfold newFk
  rw [show k + 1 - 2 = (k - 2) + 1 by omega, List.range'_concat, List.foldl_append]
  simp only [List.foldl_cons, List.foldl_nil]
  congr 1
  omega
theorem stepF_len (F : List Int) (k : Nat) : (stepF F k).length = F.length := by simp [stepF]
theorem newFk_len (n k : Nat) : (newFk n k).length = n / 64 + 1 := by
  have : ∀ (l : List Nat) (F : List Int), (l.foldl stepF F).length = F.length := by
    intro l
    induction l with
    | nil => intro F; rfl
    | cons x l ih => intro F; rw [List.foldl_cons, ih, stepF_len]
  rw [newFk, this, List.length_replicate]
set_option maxRecDepth 100000 in
set_option maxHeartbeats 1000000 in
theorem kNew (W : World) (s : Int) (n : Nat) (hn : (n : Int) = min (max s 0) 2000) :
    Calls Tryd.prog 8 #[.int .i64 s] W fun e w' => ∃ mb cb fb, e = .returned (.pointer (some ⟨mb, 0, none⟩)) ∧ Apart .emp mb cb fb ∧ Pls W w' (Kp.emp.and (MapB mb cb fb (List.replicate n 0) (newFk n (max n 2)) n (n / 64 + 1) [] [] true)) := by
  obtain ⟨m, hm⟩ : ∃ m : Int, (if s < 0 then (0 : Int) else s) = m := ⟨_, rfl⟩
  have hmn : (if 2000 < m then (2000 : Int) else m) = (n : Int) := by
    rw [hn, ← hm]
    split <;> split <;> omega
  have hn2 : n ≤ 2000 := by omega
  have hI := fun w9 => madeI w9 n (by omega)
  have hWd : ∀ w9 : World, (Instr.makeSlice 42 (.int .i64 ((n : Int) / 64 + 1)) (.int .i64 ((n : Int) / 64 + 1))).run Tryd.prog w9 = .ok (.slice (some ⟨w9.heap.size, 0, none⟩) (n / 64 + 1) (n / 64 + 1)) (w9.alloc (.cells (words (List.replicate (n / 64 + 1) 0) ++ []).toArray 48)) := fun w9 => by
    rw [show ((n : Int) / 64 + 1) = ((n / 64 + 1 : Nat) : Int) by omega]
    exact madeW w9 (n / 64 + 1) (by omega)
  have q1 : IntKind.i64.wrap ((n : Int) / 64 + 1) = (n : Int) / 64 + 1 := by rw [IntKind.wrap_i64]; omega
  clear hn
  go_enter Tryd.func8, Tryd.ntmps8
  have hS := (((Pls.start W).new (ints (List.replicate n 0)).toArray 3).new #[.slice (some ⟨W.heap.size, 0, none⟩) n n, .slice (some ⟨W.heap.size + 1 + 1, 0, none⟩) (n / 64 + 1) (n / 64 + 1), .bool true] 44).new (words (List.replicate (n / 64 + 1) 0)).toArray 48
  simp only [World.size_alloc] at hS
  have hap : Apart .emp (W.heap.size + 1) W.heap.size (W.heap.size + 1 + 1) := ⟨by omega, by omega, by omega, id, id, id⟩
  obtain ⟨cb, hcb⟩ : ∃ cb, cb = W.heap.size := ⟨_, rfl⟩
  obtain ⟨mb, hmb⟩ : ∃ mb, mb = W.heap.size + 1 := ⟨_, rfl⟩
  obtain ⟨fb, hfb⟩ : ∃ fb, fb = W.heap.size + 1 + 1 := ⟨_, rfl⟩
  go_wp2
  obtain ⟨w2, hw2⟩ : ∃ w2, w2 = ((W.alloc (.cells (ints (List.replicate n 0)).toArray 3)).alloc (.cells #[.slice (some ⟨W.heap.size, 0, none⟩) n n, .slice (some ⟨W.heap.size + 1 + 1, 0, none⟩) (n / 64 + 1) (n / 64 + 1), .bool true] 44)).alloc (.cells (words (List.replicate (n / 64 + 1) 0)).toArray 48) := ⟨_, rfl⟩
  rw [← hw2] at hS ⊢
  rw [← hfb, ← hmb, ← hcb] at hS hap
  rw [← hfb, ← hmb, ← hcb]
  have hS2 : Pls W w2 (Kp.emp.and (MapB mb cb fb (List.replicate n 0) (newFk n 2) n (n / 64 + 1) [] [] true)) := by
    refine hS.keep (fun h => ⟨trivial, ⟨?_, ?_⟩, ?_⟩) (fun k hk => ?_)
    · rw [List.append_nil]; exact h.1.1.2
    · rw [List.append_nil]; exact h.2
    · rw [newFk_len, List.length_replicate]; exact h.1.2
    · rcases hk with hk | ((hk | hk) | hk)
      · exact hk.elim
      · exact .inl (.inl (.inr hk))
      · exact .inr hk
      · exact .inl (.inr hk)
  clear hw2 hcb hmb hfb hS hI hWd q1 hm hmn
  go_loopw [4] (fun k wr => ∃ kk : Nat, k = .int .i64 (kk : Int) ∧ 2 ≤ kk ∧ kk ≤ max n 2 ∧ Pls W wr (Kp.emp.and (MapB mb cb fb (List.replicate n 0) (newFk n kk) n (n / 64 + 1) [] [] true))) (fun k wr => n - (intOf k).toNat)
  case atStart => exact ⟨2, rfl, by omega, by omega, hS2⟩
  case round =>
    obtain ⟨kk, rfl, hk2, hkm, hS⟩ := hrel
    obtain ⟨y1, y2, y3⟩ := MapB.cells hS.fact.2
    rw [List.length_replicate] at y1
    rw [newFk_len] at y2
    clear hS2
    by_cases hlt : kk < n
    · have t1 : ((kk : Int) < (n : Int)) = True := eq_true (by omega)
      have wk : IntKind.i64.wrap ((kk : Int) + 1) = ((kk + 1 : Nat) : Int) := by rw [IntKind.wrap_i64]; omega
      have hfl : kk / 64 < (newFk n kk).length := by rw [newFk_len]; omega
      have i3 : (0 : Int) ≤ ((kk / 64 : Nat) : Int) := by omega
      have i4 : ((kk / 64 : Nat) : Int) < ((n / 64 + 1 : Nat) : Int) := by omega
      obtain ⟨d1, d2⟩ := MapB.wrd hS.fact.2 (kk / 64) _ (List.getElem?_eq_getElem hfl)
      have hN := (MapB.setF hS hap (kk / 64) (bits .or .u64 (newFk n kk)[kk / 64] (IntKind.u64.wrap (2 ^ (kk % 64)))) hfl).drew
      have he : (newFk n kk).set (kk / 64) (bits .or .u64 (newFk n kk)[kk / 64] (IntKind.u64.wrap (2 ^ (kk % 64)))) = newFk n (kk + 1) := by
        rw [newFk_next n kk hk2]
        unfold stepF bitV
        rw [List.getD, List.getElem?_eq_getElem hfl]
        rfl
      rw [he] at hN
      replace hN := Lib.hid hN
      generalize (newFk n kk)[kk / 64] = f at *
      clear hS he hfl
      go_upto_region 6 with fail
      go_region
      all_goals
        go_wp2
        go_roundw
        case rel => exact ⟨kk + 1, rfl, by omega, by omega, hN.out⟩
        case measure => simp [intOf]; omega
    · have t1 : ((kk : Int) < (n : Int)) = False := eq_false (by omega)
      have hkk : kk = max n 2 := by omega
      subst hkk
      clear hlt hkm
      go_wp2
      go_ret
      exact ⟨mb, cb, fb, rfl, hap, hS⟩
end Go.Proofs.YtekfceolignihaaDoor
