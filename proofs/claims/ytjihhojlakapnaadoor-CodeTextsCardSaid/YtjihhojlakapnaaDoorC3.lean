/- 'Literal', 'Text'. -/
import Derived.Test.YtjihhojlakapnaaDoorC2
namespace Go.Proofs.YtjihhojlakapnaaDoor
open Go.RowKit
set_option linter.unusedVariables false
set_option linter.unusedSimpArgs false
attribute [local go_sem] cell_set set_set m_undef
theorem Rv.lit (w : World) (l : List Int) : Rv (w.alloc (.cells (ic l).toArray 2)) 1 (.slice (some ⟨w.heap.size, 0, none⟩) l.length l.length) l.length (ic l) :=
  ⟨by rw [ic_len, Nat.mul_one], fun u hu => by simp only [ic, List.mem_map] at hu; obtain ⟨x, _, rfl⟩ := hu; rfl, .inr ⟨⟨w.heap.size, 0, none⟩, l.length, rfl, fun j u hu => by
    rw [Addr.add_lit, Nat.zero_add, (Blk.new w (ic l).toArray 2).cell, List.getElem?_toArray]
    exact hu⟩⟩
set_option maxHeartbeats 1000000 in
theorem wLiteral (w : World) (p : Option Addr) (n : Int) (hn : isI n) {Q : Int → World → Prop}
    (hlay : ∀ w1 u, Below w.heap.size w w1 → Bs w1 w.heap.size u (cellsB [16, n]) → Calls Tryd.prog 38 #[.pointer p, u, .bool true] w1 fun e w' => ∃ t, e = .returned (.int .i64 t) ∧ Q t w') :
    Calls Tryd.prog 12 #[.pointer p, .int .i64 n] w fun e w' => ∃ t, e = .returned (.int .i64 t) ∧ Q t w' := by
  have hX := Lib.hid (wXt 2 w)
  rw [if_pos (by decide)] at hX
  have hC := Lib.hid (fun (w1 : World) (hb : Below w.heap.size w w1) => wComma (w1.alloc (.cells (ic [16, n]).toArray 2)) p _ [16, n] (Rv.lit w1 [16, n]) (fun x hx => by
    simp only [List.mem_cons, List.not_mem_nil, or_false] at hx
    rcases hx with rfl | rfl
    · unfold isI; omega
    · exact hn) (by simp) (Q := Q) (fun w2 u hb2 hu => hlay w2 u (bel_trans (bel_alloc hb _) hb2) (hu.mono (Nat.le_trans hb.size (by simp)))))
  replace hlay := Lib.hid hlay
  go_enter Tryd.func12, Tryd.ntmps12
  go_wp2_with (first
    | (go_at_call 35; refine hX.out.mono ?_; rintro e w1 ⟨rfl, hb⟩; have hC2 := hC.out w1 hb; clear hC)
    | (go_at_call 15; refine hC2.mono ?_; rintro e w2 ⟨t, rfl, hq⟩))
  go_ret
  exact ⟨t, rfl, hq⟩
/-- A text's bytes, as 'Text' lays them. -/
def padT (nm : List UInt8) : Nat := (8 - (8 + nm.length) % 8) % 8
def textB (nm : List UInt8) : List UInt8 := bytesB (nm.length : Int) 8 ++ nm ++ List.replicate (padT nm) 0
theorem Bs.appendS0 {P : Program} {w : World} {B : Nat} {v u : Value} {l : List UInt8} (hv : Bs w B v l) (hl : l ≠ []) {t tx e ty : TypeId} (hsrc : Src P 1 tx u 0 [] w) (ht : P.underlying t = some (.slice e))
    (hi : (P.info? e).map (fun i => (i.zero, i.size, i.bytes)) = some (some (.int .u8 0), 1, 1)) : (Builtin.append_ #[t, tx] ty #[v, u]).run P w = .ok v w := by
  obtain ⟨i, hi1, hi2⟩ := Option.map_eq_some_iff.1 hi
  simp only [Prod.mk.injEq] at hi2
  obtain ⟨hz0, hs1, hb1⟩ := hi2
  obtain ⟨b, o, c, rfl⟩ := hv.some_of hl
  obtain ⟨a, cap, e, hcap⟩ := hv.len
  cases e
  have := run_append_room_src (P := P) w t tx ty _ i ht hi1 b o l.length c u 0 [] (by rw [hs1]; exact hsrc) (by omega) (fun j hj => by cases hj) (fun j hj => by cases hj)
  exact this
set_option maxRecDepth 100000 in
set_option maxHeartbeats 1000000 in
theorem wText (w : World) (p : Option Addr) (nm : List UInt8) (hlen : nm.length ≤ 100000) {Q : Int → World → Prop}
    (hlay : ∀ w1 u, Below w.heap.size w w1 → Bs w1 w.heap.size u (textB nm) → Calls Tryd.prog 38 #[.pointer p, u, .bool true] w1 fun e w' => ∃ t, e = .returned (.int .i64 t) ∧ Q t w') :
    Calls Tryd.prog 14 #[.pointer p, .string ⟨nm.toArray⟩] w fun e w' => ∃ t, e = .returned (.int .i64 t) ∧ Q t w' := by
  have hBO := Lib.hid (wBytesOf w (nm.length : Int) (by unfold isI; omega))
  replace hlay := Lib.hid hlay
  have hsz : (⟨nm.toArray⟩ : ByteArray).size = nm.length := by simp [ByteArray.size]
  have hcb : byteCells ⟨nm.toArray⟩ = cb nm := by simp [byteCells, cb]
  have hap : ∀ (w2 : World) (v : Value), Bs w2 w.heap.size v (bytesB (nm.length : Int) 8) → w.heap.size ≤ w2.heap.size → ∃ v4 w4, (Builtin.append_ #[22, 9] 22 #[v, .string ⟨nm.toArray⟩]).run Tryd.prog w2 = .ok v4 w4 ∧ Bs w4 w.heap.size v4 (bytesB (nm.length : Int) 8 ++ nm) ∧ w2.grownBy w4 v.ownBlock := by
    intro w2 v hv hB
    have hsrc := Src.ofString (P := Tryd.prog) w2 (tx := 9) Tryd.underlying9 ⟨nm.toArray⟩
    rw [hsz, hcb] at hsrc
    by_cases h0 : nm = []
    · subst h0
      have hr := hv.appendS0 (ty := 22) (by intro e; have := congrArg List.length e; rw [bytesB_len] at this; cases this) hsrc Tryd.underlying22 info5
      exact ⟨v, w2, hr, by simpa using hv, ⟨rfl, rfl, rfl, Nat.le_refl _, fun k hk _ => rfl⟩⟩
    · obtain ⟨v4, w4, hr4, hv4, hg4, ho4⟩ := Bs.appendS (P := Tryd.prog) (ty := 22) hv hsrc Tryd.underlying22 info5 h0 (by rw [bytesB_len]; omega) hB
      exact ⟨v4, w4, hr4, hv4, hg4⟩
  replace hap := Lib.hid hap
  have hlen' := Lib.hid hlen
  have hs : (⟨nm.toArray⟩ : ByteArray).size = nm.length := hsz
  clear hsz hcb hlen
  obtain ⟨L, hL⟩ : ∃ L, L = bytesB (nm.length : Int) 8 ++ nm := ⟨_, rfl⟩
  have hLl := Lib.hid (show L.length = 8 + nm.length by rw [hL, List.length_append, bytesB_len])
  replace hL := Lib.hid hL
  obtain ⟨pad, hpad⟩ : ∃ pad, pad = (8 - (8 + nm.length) % 8) % 8 := ⟨_, rfl⟩
  have hpad' := Lib.hid hpad
  clear hpad
  go_enter Tryd.func14, Tryd.ntmps14
  go_upto_region 2 with (first
    | (go_at_call 37; refine hBO.out.mono ?_; rintro e w2 ⟨u, rfl, hu, hbu⟩
       obtain ⟨v4, w4, hr4, hv4, hg4⟩ := hap.out w2 u hu hbu.size
       have hbl4 := Lib.hid (hbu.grown hg4 hbu.size (fun k e => hu.ge (Nat.le_refl _) e))
       obtain ⟨au, nu, cu, rfl⟩ := hu.form
       obtain ⟨a4, n4, cc4, rfl⟩ := hv4.form
       rw [← hL.out] at hv4
       replace hv4 := Lib.hid hv4
       clear hg4 hu hbu hap)
    | (at_builtin; refine wpList_append_bs2 rfl _ _ 22 9 rfl hr4 rfl rfl ?_))
  go_loopw [5] (fun b wr => ∃ k : Nat, k ≤ pad ∧ Bs wr w.heap.size b (L ++ List.replicate k 0) ∧ Below w.heap.size w wr) (fun b _ => (match b with | .slice _ n _ => 100100 - n | _ => 0))
  case atStart => exact ⟨0, by omega, by simpa using hv4.out, hbl4.out⟩
  case round =>
    obtain ⟨k, hk, hb, hbel⟩ := hrel
    obtain ⟨a5, cc5, rfl, hcap5⟩ := hb.len
    obtain ⟨N, hN⟩ : ∃ N, (L ++ List.replicate k (0 : UInt8)).length = N := ⟨_, rfl⟩
    have hNe := Lib.hid (show N = 8 + nm.length + k by rw [← hN, List.length_append, List.length_replicate, hLl.out])
    rw [hN]
    by_cases hkp : k < pad
    · have t2 : ((N : Int) % 8 != 0) = true := by
        have := hpad'.out
        have := hNe.out
        simp only [bne_iff_ne, ne_eq]
        omega
      have hA5 := hb.alloc (.cells #[.int .u8 ((0 : UInt8).toNat : Int)] 5)
      obtain ⟨v6, w6, hr6, hv6, hg6, ho6⟩ := Bs.append (P := Tryd.prog) (ty := 22) hA5 (Bs.lit1 wr 0) Tryd.underlying22 info5 (by have := hpad'.out; have := hNe.out; have := hlen'.out; rw [hN]; simp only [List.length_cons, List.length_nil]; omega) (by have := hbel.size; simp; omega)
      have hbl6 := Lib.hid ((bel_alloc hbel (.cells #[.int .u8 ((0 : UInt8).toNat : Int)] 5)).grown hg6 (by have := hbel.size; simp; omega) (fun k e => hA5.ge (Nat.le_refl _) e))
      obtain ⟨a6, cc6, rfl, hcap6⟩ := hv6.len
      have hl6 : (L ++ List.replicate k (0 : UInt8) ++ [0]).length = N + 1 := by rw [List.length_append, hN]; rfl
      rw [hl6] at hr6
      rw [hN] at hr6
      have e6 : L ++ List.replicate k (0 : UInt8) ++ [0] = L ++ List.replicate (k + 1) 0 := by
        rw [List.append_assoc, ← List.replicate_succ']
      rw [hl6, e6] at hv6
      replace hv6 := Lib.hid hv6
      have hkp' := Lib.hid hkp
      clear hg6 ho6 hA5 hb hbel hcap6 hl6 e6 hkp hN hcap5 hk
      go_wp2_with (at_builtin; refine wpList_append_bs rfl _ _ 22 rfl hr6 rfl rfl ?_)
      go_roundw
      case rel => exact ⟨k + 1, by have := hkp'.out; omega, hv6.out, hbl6.out⟩
      case measure => have := hNe.out; have := hpad'.out; have := hkp'.out; have := hlen'.out; show 100100 - (N + 1) < 100100 - N; omega
    · have hkk : k = pad := by omega
      subst hkk
      have t2 : ((N : Int) % 8 != 0) = false := by
        have := hpad'.out
        have := hNe.out
        simp only [bne_eq_false_iff_eq]
        omega
      rw [hN] at hb
      have hT : L ++ List.replicate k 0 = textB nm := by unfold textB padT; rw [hL.out, ← hpad'.out]
      rw [hT] at hb
      have hLy := Lib.hid (hlay.out wr _ hbel hb)
      clear hT hN hcap5 hkp hk hb hbel
      go_wp2_with (go_at_call 38; refine hLy.out.mono ?_; rintro e w2 ⟨t, rfl, hq⟩)
      go_ret
      exact ⟨t, rfl, hq⟩
theorem nByte (w : World) (n : Int) : Calls Tryd.prog 19 #[.pointer none, .int .i64 n] w fun e w' => e = .returned (.int .i64 (-9)) ∧ Below w.heap.size w w' := by
  have hL := Lib.hid (fun (w1 : World) (a : Option Addr) (n c : Nat) => nLayF w1 a n c)
  go_enter Tryd.func19, Tryd.ntmps19
  go_wp2_with (go_at_call 38; refine (hL.out _ _ _ _).mono ?_; rintro e w2 ⟨rfl, hb⟩)
  go_ret
  exact ⟨rfl, bel_trans (bel_alloc (Below.refl _ _) _) hb⟩
theorem nAllot (w : World) (n : Int) : Calls Tryd.prog 20 #[.pointer none, .int .i64 n] w fun e w' => e = .returned (.int .i64 (-9)) ∧ w' = w := by
  go_enter Tryd.func20, Tryd.ntmps20
  go_wp2
  go_ret
  exact ⟨rfl, rfl⟩
theorem nAlign (w : World) : Calls Tryd.prog 21 #[.pointer none] w fun e w' => e = .returned (.int .i64 (-9)) ∧ w' = w := by
  go_enter Tryd.func21, Tryd.ntmps21
  go_wp2
  go_ret
  exact ⟨rfl, rfl⟩
end Go.Proofs.YtjihhojlakapnaaDoor
