/- The reference's 'Takes'. -/
import Derived.Test.YtjeelccdbhhfjaaT7
namespace Go.Proofs.Ytjeelccdbhhfjaa
open Go.RowKit
set_option linter.unusedVariables false
set_option linter.unusedSimpArgs false
attribute [local go_sem] cell_set set_set m_undef

theorem run_madeI (w : World) (N : Nat) (hN : N ≤ 1000000) : (Instr.makeSlice 22 (.int .i64 (N : Int)) (.int .i64 (N : Int))).run Try.prog w = .ok (.slice (some ⟨w.heap.size, 0, none⟩) N N) (w.alloc (.cells (ic (List.replicate N 0)).toArray 2)) := by
  obtain ⟨i, hi1, hi2⟩ := Option.map_eq_some_iff.1 infoI
  simp only [Prod.mk.injEq] at hi2
  obtain ⟨hz, hs1, hb1⟩ := hi2
  have h := run_make (P := Try.prog) w 22 2 i (.int .i64 0) Try.underlying22 hi1 hz .i64 .i64 (N : Int) (N : Int) (by omega) (Int.le_refl _) (by rw [hb1]; omega) (by omega)
  rw [h]
  have e : madeCells (Value.int IntKind.i64 0).cells ((N : Int).toNat * i.size) = (ic (List.replicate N 0)).toArray := by
    rw [hs1, Int.toNat_natCast, Nat.mul_one]
    apply Array.ext
    · simp [madeCells, ic, Value.cells]
    · intro j h1 h2
      simp [madeCells, ic, Value.cells, Nat.mod_one]
  rw [e]
  simp
theorem Onr.turnVs {W w w' : World} {Bm rb : Nat} {M : List UInt8} {O0 : Nat → Prop} {K : Kp} {k n : Nat} {v : Value} {cs cs' : List Value} (h : Onr W w Bm rb M O0 (K.and (.vs k v n cs))) (hown : ∀ b, v.ownBlock = some b → W.heap.size ≤ b ∧ ¬ K.S b) (hv : Vs w' 0 k v n cs') (hg : w.grownBy w' v.ownBlock) : Onr W w' Bm rb M O0 (K.and (.vs k v n cs')) := by
  obtain ⟨O, h1, h2, h3, h4⟩ := h
  have hvO : ∀ b, v.ownBlock = some b → ¬ O b := fun b hb => (h3.2 b (.inr hb)).2
  exact ⟨O, h1.kept hg hvO, h2.grownOwn hg (fun b hb => (hown b hb).1), (h3.left.grown hg (fun b hb => (hown b hb).2)).and (Keep.vs hv hvO), h4⟩
/-- The slice while it is filled from behind. -/
def fillL (M : List UInt8) (N k : Nat) : List Int := List.replicate (N - k) 0 ++ (popsL M k).reverse
theorem fillL_len (M : List UInt8) (N k : Nat) (h : k ≤ N) : (fillL M N k).length = N := by simp [fillL, popsL_len]; omega
theorem fillL_set (M : List UInt8) (N k : Nat) (h : k < N) : (fillL M N k).set (N - 1 - k) (peekV (popN M k) 32 256 512 0) = fillL M N (k + 1) := by
  unfold fillL
  rw [popsL_succ, List.reverse_append, List.reverse_cons, List.reverse_nil, List.nil_append]
  have e : N - k = (N - 1 - k) + 1 := by omega
  have e2 : N - (k + 1) = N - 1 - k := by omega
  rw [e, e2, List.replicate_succ', List.append_assoc, List.set_append_right _ _ (by simp)]
  simp
/-- The reference's 'Takes': what it gives. -/
def RTakesP (w w' : World) (B rb : Nat) (M : List UInt8) (O : Nat → Prop) (n : Int) (e : Ending) : Prop :=
  RefX w w' B rb O (fun v : Value => .tuple #[v, .int .i64 (takesT M n)]) (fun _ => takesM M n) (fun v => .vsN w.heap.size 1 v (takesL M n).length (ic (takesL M n))) e
set_option maxRecDepth 100000 in
set_option maxHeartbeats 1600000 in
theorem rTakes {w : World} {B rb : Nat} {M : List UInt8} {R : Nat → Prop} (h : RefP w B rb M R) (n : Int) (hn : isI n) :
    Calls Try.prog 52 #[.pointer (some ⟨rb, 0, none⟩), .int .i64 n] w fun e w' => RTakesP w w' B rb M R n e := by
  have hS := Onr.start h h.base_le
  have hdb := (depL_bd (M := M) (show Sk 32 256 512 from by unfold Sk; omega))
  have hD := Lib.hid (fun (w9 : World) (O : Nat → Prop) (h : RefP w9 B rb M O) => rDepth h)
  unfold RTakesP takesT takesM takesL
  generalize depL M 32 256 512 = d at *
  obtain ⟨N, hN⟩ : ∃ N, N = takesN n := ⟨_, rfl⟩
  have hNn : (N : Int) = max n 0 := by rw [hN]; unfold takesN; omega
  have hmx : max n 0 = (N : Int) := hNn.symm
  have hmx2 : (if n < 0 then (0 : Int) else n) = (N : Int) := by split <;> omega
  rw [← hN]
  by_cases c1 : d < n
  · have t1 : (d < (N : Int)) = True := by simp; omega
    simp only [if_pos c1]
    clear c1 hdb hn hNn hN
    go_enter Try.func52, Try.ntmps52
    go_wp2_with (go_at_call 26; refine (hS.read (fun O h => hD.out _ _ h)).mono ?_; rintro e w2 ⟨rfl, hS2⟩; clear hS; have hS := hS2; clear hS2)
    go_ret2
    obtain ⟨O', q1, q2, q3, q4⟩ := hS
    exact ⟨_, O', rfl, q1, q2, (Keep.vs (Vs.nil _ 0 1) (fun b hb => by cases hb)).vsN (fun b hb => by cases hb)⟩
  · have t1 : (d < (N : Int)) = False := by simp; omega
    simp only [if_neg c1]
    have hN32 : N ≤ 32 := by omega
    have w1 : IntKind.i64.wrap ((N : Int) - 1) = (N : Int) - 1 := by rw [IntKind.wrap_i64]; omega
    have hmk := fun w9 => run_madeI w9 N (by omega)
    clear c1 hdb hn hNn hN
    go_enter Try.func52, Try.ntmps52
    go_upto_region 5 with (go_at_call 26; refine (hS.read (fun O h => hD.out _ _ h)).mono ?_; rintro e w2 ⟨rfl, hS2⟩; clear hS; have hS := hS2; clear hS2)
    have hS3 := hS.new (ic (List.replicate N 0)).toArray 2
    have hsz := Lib.hid hS.size
    obtain ⟨w3, hw3⟩ : ∃ w3, w3 = w2.alloc (.cells (ic (List.replicate N 0)).toArray 2) := ⟨_, rfl⟩
    rw [← hw3] at hS3 ⊢
    have hS4 : Onr w w3 B rb M R (Kp.emp.and (.vs 1 (.slice (some ⟨w2.heap.size, 0, none⟩) N N) N (ic (fillL M N 0)))) := hS3.keep fun O h => (Keep.emp _ _).and (Keep.vs (Vs.of_blk (B := 0) h.right.1 (by rw [ic_len, fillL_len _ _ _ (by omega)]; omega) (by simp [ic]) (Nat.le_refl _) (fun j u hj => by simpa [fillL, popsL] using hj) (fun u hu => by obtain ⟨x, _, rfl⟩ := List.mem_map.1 hu; rfl) (Nat.zero_le _)) (fun b hb => by cases hb; exact (h.right.2 _ rfl).2))
    clear hS hS3 hw3 hmk
    go_wp2
    go_loopw [7] (fun i wr => ∃ (k : Nat), i = .int .i64 ((N : Int) - 1 - (k : Int)) ∧ k ≤ N ∧ Onr w wr B rb (popN M k) R (Kp.emp.and (.vs 1 (.slice (some ⟨w2.heap.size, 0, none⟩) N N) N (ic (fillL M N k))))) (fun i _ => (intOf i + 1).toNat)
    case atStart => exact ⟨0, by simp, by omega, hS4⟩
    case round =>
      obtain ⟨k, rfl, hk, hS⟩ := hrel
      clear hS4
      by_cases hlt : k < N
      · obtain ⟨q, hq⟩ : ∃ q : Nat, q + k + 1 = N := ⟨N - 1 - k, by omega⟩
        have eq : (N : Int) - 1 - (k : Int) = (q : Int) := by omega
        rw [eq]
        have t2 : ((0 : Int) ≤ (q : Int)) = True := by simp
        have b1 : (0 : Int) ≤ (q : Int) := by omega
        have b2 : (q : Int) < (N : Int) := by omega
        have wq : IntKind.i64.wrap ((q : Int) - 1) = (q : Int) - 1 := by rw [IntKind.wrap_i64]; omega
        have hj2 := Lib.hid (show Value.int .i64 ((q : Int) - 1) = .int .i64 ((N : Int) - 1 - ((k + 1 : Nat) : Int)) by congr 1; omega)
        obtain ⟨x, hx⟩ : ∃ x, x = peekV (popN M k) 32 256 512 0 := ⟨_, rfl⟩
        obtain ⟨y, hy⟩ : ∃ y, y = peekT (popN M k) 32 256 512 (-4) 0 := ⟨_, rfl⟩
        have hP := Lib.hid (fun (w9 : World) (O : Nat → Prop) (h : RefP w9 B rb (popN M k) O) => rPop h)
        rw [← hx, ← hy] at hP
        have hfs := fillL_set M N k hlt
        rw [← hx, show N - 1 - k = q by omega] at hfs
        have hfl := fillL_len M N k hk
        generalize fillL M N k = L at *
        replace hfs := Lib.hid hfs
        have hqe := Lib.hid hq
        replace hk := Lib.hid hk
        replace hlt := Lib.hid hlt
        obtain ⟨z, hz⟩ : ∃ z, L[q]? = some z := ⟨_, List.getElem?_eq_getElem (by omega)⟩
        replace hz := Lib.hid hz
        clear hx hy hq eq hfl
        go_upto_region 7 with (go_at_call 45; refine (hS.ref (fun O h hb => hP.out _ _ h)).mono ?_; rintro e w4 ⟨rfl, hS2⟩; clear hS; have hS := hS2; clear hS2; have s1 := hS.fact.2.cell q (.int .i64 z) (by unfold ic; rw [List.getElem?_map, hz.out]; rfl); have s2 := hS.fact.2.free q (by have := hqe.out; omega); rw [Nat.zero_add] at s1 s2)
        have hV2 := hS.fact.2.setAt q (.int .i64 x) (by have := hqe.out; omega) rfl
        rw [ic_set, hfs.out, Nat.zero_add] at hV2
        have hS5 := Lib.hid (hS.turnVs (fun b hb => by cases hb; exact ⟨hsz.out, fun h => h.elim⟩) hV2 (grownBy_setCell w4 w2.heap.size q (.int .i64 x)))
        clear hS hV2 hP
        go_wp2
        go_roundw
        case rel => exact ⟨k + 1, hj2.out, by have := hlt.out; omega, hS5.out⟩
        case measure => simp [intOf]
      · have hkN : k = N := by omega
        subst hkN
        have t2 : ((0 : Int) ≤ (k : Int) - 1 - (k : Int)) = False := by simp; omega
        clear hlt hk hD
        go_wp2
        go_ret2
        obtain ⟨O', q1, q2, q3, q4⟩ := hS
        refine ⟨_, O', rfl, q1, q2, ?_⟩
        rw [List.length_reverse, popsL_len]
        have e : fillL M k k = (popsL M k).reverse := by simp [fillL]
        rw [← e]
        exact q3.right.vsN (fun b hb => by cases hb; exact hsz.out)
end Go.Proofs.Ytjeelccdbhhfjaa
