/- 'StackOrder'. -/
import Derived.Test.YtjeelccdbhhfjaaOA
import Derived.Test.YtjeelccdbhhfjaaQ4
namespace Go.Proofs.Ytjeelccdbhhfjaa
open Go.RowKit
set_option linter.unusedVariables false
set_option linter.unusedSimpArgs false
attribute [local go_sem] cell_set set_set m_undef
attribute [local irreducible] pushM popM setM layL peekV peekT pushT flatL

set_option maxRecDepth 100000 in
set_option maxHeartbeats 4000000 in
theorem stackOrder {w : World} (v1 : Value) (L1 : List Int) (hL1 : Rv w 1 v1 L1.length (ic L1)) (hL1i : ∀ z ∈ L1, isI z) (v2 : Value) (L2 : List Int) (hL2 : Rv w 1 v2 L2.length (ic L2)) (hL2i : ∀ z ∈ L2, isI z) (hn1 : L1.length ≤ 9223372036854775807) (hn2 : L2.length ≤ 9223372036854775807) :
    Calls Try.prog 3 #[v1, v2] w fun e w' => e = .returned (.bool true) ∧ Below w.heap.size w w' := by
  have hA := Lib.hid wAwake
  obtain ⟨ad1, cap1, rfl⟩ := hL1.form
  obtain ⟨ad2, cap2, rfl⟩ := hL2.form
  replace hL1 := Lib.hid hL1
  replace hL1i := Lib.hid hL1i
  replace hL2 := Lib.hid hL2
  replace hL2i := Lib.hid hL2i
  clear hn1 hn2
  by_cases h9 : 100 < L1.length
  · have t1 : ((100 : Int) < (L1.length : Int)) = True := by simp; omega
    clear h9
    go_enter Try.func3, Try.ntmps3
    go_wp2_with (go_at_call 7; refine (hA.out _).mono ?_; rintro e w1 ⟨rfl, hb1⟩; replace hb1 := Lib.hid hb1)
    go_ret
    exact ⟨rfl, hb1.out⟩
  have t1 : ((100 : Int) < (L1.length : Int)) = False := by simp; omega
  have k1 : L1.length ≤ 1000 := by omega
  clear h9
  by_cases h2 : 100 < L2.length
  · have t2 : ((100 : Int) < (L2.length : Int)) = True := by simp; omega
    clear h2
    go_enter Try.func3, Try.ntmps3
    go_wp2_with (go_at_call 7; refine (hA.out _).mono ?_; rintro e w1 ⟨rfl, hb1⟩; replace hb1 := Lib.hid hb1)
    go_ret
    exact ⟨rfl, hb1.out⟩
  have t2 : ((100 : Int) < (L2.length : Int)) = False := by simp; omega
  have k2 : L2.length ≤ 1000 := by omega
  clear h2
  obtain ⟨N1, hN1⟩ : ∃ N1, N1 = min L1.length 32 := ⟨_, rfl⟩
  obtain ⟨N2, hN2⟩ : ∃ N2, N2 = min L2.length 32 := ⟨_, rfl⟩
  replace hN1 := Lib.hid hN1
  replace hN2 := Lib.hid hN2
  have hF1 := Lib.hid (fun (w9 : World) => wFlat w9 0 (.slice none 0 0) [] (Bs.nil _ _))
  unfold FlatQ at hF1
  go_enter Try.func3, Try.ntmps3
  go_upto_region 8 with (first
    | (go_at_call 7; refine (hA.out _).mono ?_; rintro e w1 ⟨rfl, hb1⟩; replace hb1 := Lib.hid hb1)
    | (go_at_call 8; refine (hF1.out _).mono ?_; rintro e w2 ⟨mb, O2, rfl, hP2, hb2⟩; have hT := Uno.make hb1.out (Keep.emp _ _) hP2 hb2; clear hP2 hb2))
  clear hb1 hF1 hA
  go_wp2
  go_loopw [37] (fun i wr => ∃ (k : Nat) (M' : List UInt8), i = .int .i64 (k : Int) ∧ k ≤ L1.length ∧ StkIs M' 32 256 512 (L1.take (min k 32)) ∧ StkIs M' 40 512 768 [] ∧ Uno w wr mb M' .emp) (fun i _ => (L1.length - (intOf i).toNat))
  case atStart => exact ⟨0, _, rfl, by omega, by simpa using stk_zero.1, stk_zero.2, hT⟩
  case round =>
    obtain ⟨k, M', rfl, hk, hd, hb, hT⟩ := hrel
    by_cases hlt : k < L1.length
    · have t5 : ((k : Int) < (L1.length : Int)) = True := by simp; omega
      have i1 : (0 : Int) ≤ (k : Int) := by omega
      have i2 : (k : Int) < (L1.length : Int) := by omega
      have wk : IntKind.i64.wrap ((k : Int) + 1) = ((k + 1 : Nat) : Int) := by rw [IntKind.wrap_i64]; omega
      obtain ⟨a, hea, s1⟩ : ∃ a, ad1 = some a ∧ wr.cell? (a.add k) = some (.int .i64 L1[k]) := by
        rcases (hL1.out.below hT.bel).2.2 with ⟨e, e2⟩ | ⟨a, c, e, hc⟩
        · omega
        · cases e
          exact ⟨a, rfl, hc k _ (ic_at L1 k hlt)⟩
      subst hea
      have hx := hL1i.out L1[k] (List.getElem_mem hlt)
      have htk : k < 32 → L1.take (min k 32) ++ [L1[k]] = L1.take (min (k + 1) 32) := fun h => by
        rw [Nat.min_eq_left (by omega), Nat.min_eq_left (by omega), List.take_add_one, List.getElem?_eq_getElem hlt]; rfl
      have htl : (L1.take (min k 32)).length = min k 32 := by rw [List.length_take]; omega
      generalize L1[k] = x at *
      have hP := Lib.hid (fun (w9 : World) (B : Nat) (O : Nat → Prop) (h : MemP w9 B mb M' O) (hb : B ≤ w9.heap.size) => kPush h hb x)
      by_cases h32 : k < 32
      · have t6 : ((k : Int) < 32) = True := by simp; omega
        obtain ⟨h1, h2⟩ := hd.push (by unfold Sk; omega) x hx (by rw [htl]; omega)
        rw [htk h32] at h1
        rw [h2] at hP
        have ho := hb.pushData x
        replace h1 := Lib.hid h1
        replace ho := Lib.hid ho
        replace hlt := Lib.hid hlt
        clear hd hb htk htl hx hk h2 h32
        go_wp2_with (go_at_call 9; refine (hT.mem (fun B O h hb => hP.out _ _ _ h hb)).mono ?_; rintro e w2 ⟨rfl, hT2⟩; clear hT; have hT := hT2; clear hT2)
        go_roundw
        case rel => exact ⟨k + 1, _, rfl, hlt.out, h1.out, ho.out, hT⟩
        case measure => have := hlt.out; simp [intOf]; omega
      · have t6 : ((k : Int) < 32) = False := by simp; omega
        obtain ⟨h1, h2⟩ := hd.full (by unfold Sk; omega) x (by rw [htl]; omega)
        rw [h2, h1] at hP
        have hm : min k 32 = min (k + 1) 32 := by omega
        rw [hm] at hd
        replace hd := Lib.hid hd
        replace hb := Lib.hid hb
        replace hlt := Lib.hid hlt
        clear htk htl hx hk h1 h2 h32 hm
        go_wp2_with (go_at_call 9; refine (hT.mem (fun B O h hb => hP.out _ _ _ h hb)).mono ?_; rintro e w2 ⟨rfl, hT2⟩; clear hT; have hT := hT2; clear hT2)
        go_roundw
        case rel => exact ⟨k + 1, _, rfl, hlt.out, hd.out, hb.out, hT⟩
        case measure => have := hlt.out; simp [intOf]; omega
    · have t5 : ((k : Int) < (L1.length : Int)) = False := by simp; omega
      have hkN : k = L1.length := by omega
      subst hkN
      clear hlt hk
      go_wp2
      go_loopw [61] (fun i wr => ∃ (k : Nat) (M' : List UInt8), i = .int .i64 (k : Int) ∧ k ≤ L2.length ∧ StkIs M' 32 256 512 (L1.take (min L1.length 32)) ∧ StkIs M' 40 512 768 (L2.take (min k 32)) ∧ Uno w wr mb M' .emp) (fun i _ => (L2.length - (intOf i).toNat))
      case atStart => exact ⟨0, _, rfl, by omega, hd, by simpa using hb, hT⟩
      case round =>
        obtain ⟨k, M', rfl, hk, hd, hb, hT⟩ := hrel
        by_cases hlt : k < L2.length
        · have t5 : ((k : Int) < (L2.length : Int)) = True := by simp; omega
          have i1 : (0 : Int) ≤ (k : Int) := by omega
          have i2 : (k : Int) < (L2.length : Int) := by omega
          have wk : IntKind.i64.wrap ((k : Int) + 1) = ((k + 1 : Nat) : Int) := by rw [IntKind.wrap_i64]; omega
          obtain ⟨a, hea, s1⟩ : ∃ a, ad2 = some a ∧ wr.cell? (a.add k) = some (.int .i64 L2[k]) := by
            rcases (hL2.out.below hT.bel).2.2 with ⟨e, e2⟩ | ⟨a, c, e, hc⟩
            · omega
            · cases e
              exact ⟨a, rfl, hc k _ (ic_at L2 k hlt)⟩
          subst hea
          have hx := hL2i.out L2[k] (List.getElem_mem hlt)
          have htk : k < 32 → L2.take (min k 32) ++ [L2[k]] = L2.take (min (k + 1) 32) := fun h => by
            rw [Nat.min_eq_left (by omega), Nat.min_eq_left (by omega), List.take_add_one, List.getElem?_eq_getElem hlt]; rfl
          have htl : (L2.take (min k 32)).length = min k 32 := by rw [List.length_take]; omega
          generalize L2[k] = x at *
          have hP := Lib.hid (fun (w9 : World) (B : Nat) (O : Nat → Prop) (h : MemP w9 B mb M' O) (hb : B ≤ w9.heap.size) => kRPush h hb x)
          by_cases h32 : k < 32
          · have t6 : ((k : Int) < 32) = True := by simp; omega
            obtain ⟨h1, h2⟩ := hb.push (by unfold Sk; omega) x hx (by rw [htl]; omega)
            rw [htk h32] at h1
            rw [h2] at hP
            have ho := hd.pushBack x
            replace h1 := Lib.hid h1
            replace ho := Lib.hid ho
            replace hlt := Lib.hid hlt
            clear hd hb htk htl hx hk h2 h32
            go_wp2_with (go_at_call 10; refine (hT.mem (fun B O h hb => hP.out _ _ _ h hb)).mono ?_; rintro e w2 ⟨rfl, hT2⟩; clear hT; have hT := hT2; clear hT2)
            go_roundw
            case rel => exact ⟨k + 1, _, rfl, hlt.out, ho.out, h1.out, hT⟩
            case measure => have := hlt.out; simp [intOf]; omega
          · have t6 : ((k : Int) < 32) = False := by simp; omega
            obtain ⟨h1, h2⟩ := hb.full (by unfold Sk; omega) x (by rw [htl]; omega)
            rw [h2, h1] at hP
            have hm : min k 32 = min (k + 1) 32 := by omega
            rw [hm] at hb
            replace hd := Lib.hid hd
            replace hb := Lib.hid hb
            replace hlt := Lib.hid hlt
            clear htk htl hx hk h1 h2 h32 hm
            go_wp2_with (go_at_call 10; refine (hT.mem (fun B O h hb => hP.out _ _ _ h hb)).mono ?_; rintro e w2 ⟨rfl, hT2⟩; clear hT; have hT := hT2; clear hT2)
            go_roundw
            case rel => exact ⟨k + 1, _, rfl, hlt.out, hd.out, hb.out, hT⟩
            case measure => have := hlt.out; simp [intOf]; omega
        · have t5 : ((k : Int) < (L2.length : Int)) = False := by simp; omega
          have hkN : k = L2.length := by omega
          subst hkN
          clear hlt hk
          have m1 : min (L1.length : Int) 32 = (N1 : Int) := by have := hN1.out; omega
          have m2 : (if (32 : Int) < (L1.length : Int) then (32 : Int) else (L1.length : Int)) = (N1 : Int) := by have := hN1.out; split <;> omega
          have m3 : (if (L1.length : Int) < 32 then (L1.length : Int) else (32 : Int)) = (N1 : Int) := by have := hN1.out; split <;> omega
          have wN : IntKind.i64.wrap ((N1 : Int) - 1) = (N1 : Int) - 1 := by have := hN1.out; rw [IntKind.wrap_i64]; omega
          go_wp2
          clear m1 m2 m3 wN
          go_loopw [12] (fun i wr => ∃ (j : Nat) (M' : List UInt8), i = .int .i64 ((j : Int) - 1) ∧ j ≤ N1 ∧ StkIs M' 32 256 512 (L1.take j) ∧ StkIs M' 40 512 768 (L2.take (min L2.length 32)) ∧ Uno w wr mb M' .emp) (fun i _ => (intOf i + 1).toNat)
          case atStart => exact ⟨N1, _, rfl, Nat.le_refl _, by rw [hN1.out]; exact hd, hb, hT⟩
          case round =>
            obtain ⟨j, M', rfl, hj, hd, hb, hT⟩ := hrel
            by_cases hj0 : 0 < j
            · obtain ⟨q, rfl⟩ : ∃ q, j = q + 1 := ⟨j - 1, by omega⟩
              have eq : ((q + 1 : Nat) : Int) - 1 = (q : Int) := by omega
              rw [eq]
              have t5 : ((0 : Int) ≤ (q : Int)) = True := by simp
              have hlt : q < L1.length := by have := hN1.out; omega
              have i1 : (0 : Int) ≤ (q : Int) := by omega
              have i2 : (q : Int) < (L1.length : Int) := by omega
              have wq : IntKind.i64.wrap ((q : Int) - 1) = (q : Int) - 1 := by have := hN1.out; rw [IntKind.wrap_i64]; omega
              obtain ⟨a, hea, s1⟩ : ∃ a, ad1 = some a ∧ wr.cell? (a.add q) = some (.int .i64 L1[q]) := by
                rcases (hL1.out.below hT.bel).2.2 with ⟨e, e2⟩ | ⟨a, c, e, hc⟩
                · omega
                · cases e
                  exact ⟨a, rfl, hc q _ (ic_at L1 q hlt)⟩
              subst hea
              have s0 := Lib.hid (show w.cell? (a.add q) = some (.int .i64 L1[q]) by
                rcases hL1.out.2.2 with ⟨e, e2⟩ | ⟨a, c, e, hc⟩
                · omega
                · cases e
                  exact hc q _ (ic_at L1 q hlt))
              have htk : L1.take (q + 1) = L1.take q ++ [L1[q]] := by rw [List.take_add_one, List.getElem?_eq_getElem hlt]; rfl
              rw [htk] at hd
              generalize L1[q] = x at *
              have hP := Lib.hid (fun (w9 : World) (B : Nat) (O : Nat → Prop) (h : MemP w9 B mb M' O) (hb : B ≤ w9.heap.size) => kPop h hb)
              obtain ⟨h1, h2, h3⟩ := hd.pop (by unfold Sk; omega)
              rw [h2, h3] at hP
              have ho := hb.popData
              replace h1 := Lib.hid h1
              replace ho := Lib.hid ho
              replace hj := Lib.hid hj
              have tx : (x != x) = false := by simp
              clear hd hb htk eq hlt hj0 h2 h3
              go_upto_region 26 with (go_at_call 11; refine (hT.mem (fun B O h hb => hP.out _ _ _ h hb)).mono ?_; rintro e w2 ⟨rfl, hT2⟩; clear hT; have hT := hT2; clear hT2)
              have s2 := (hT.bel.cell (World.block_lt_of_cell? w _ s0.out)).trans s0.out
              go_wp2
              go_roundw
              case rel => exact ⟨q, _, rfl, by have := hj.out; omega, h1.out, ho.out, hT⟩
              case measure => simp [intOf]
            · have hj1 : j = 0 := by omega
              subst hj1
              rw [show ((0 : Nat) : Int) - 1 = -1 by omega]
              clear hj0 hj
              have m1 : min (L2.length : Int) 32 = (N2 : Int) := by have := hN2.out; omega
              have m2 : (if (32 : Int) < (L2.length : Int) then (32 : Int) else (L2.length : Int)) = (N2 : Int) := by have := hN2.out; split <;> omega
              have m3 : (if (L2.length : Int) < 32 then (L2.length : Int) else (32 : Int)) = (N2 : Int) := by have := hN2.out; split <;> omega
              have wN : IntKind.i64.wrap ((N2 : Int) - 1) = (N2 : Int) - 1 := by have := hN2.out; rw [IntKind.wrap_i64]; omega
              replace hd := Lib.hid (show StkIs M' 32 256 512 [] by simpa using hd)
              replace hd := hd.out
              go_wp2
              clear m1 m2 m3 wN
              go_loopw [15] (fun i wr => ∃ (j : Nat) (M' : List UInt8), i = .int .i64 ((j : Int) - 1) ∧ j ≤ N2 ∧ StkIs M' 32 256 512 [] ∧ StkIs M' 40 512 768 (L2.take j) ∧ Uno w wr mb M' .emp) (fun i _ => (intOf i + 1).toNat)
              case atStart => exact ⟨N2, _, rfl, Nat.le_refl _, by simpa using hd, by rw [hN2.out]; exact hb, hT⟩
              case round =>
                obtain ⟨j, M', rfl, hj, hd, hb, hT⟩ := hrel
                by_cases hj0 : 0 < j
                · obtain ⟨q, rfl⟩ : ∃ q, j = q + 1 := ⟨j - 1, by omega⟩
                  have eq : ((q + 1 : Nat) : Int) - 1 = (q : Int) := by omega
                  rw [eq]
                  have t5 : ((0 : Int) ≤ (q : Int)) = True := by simp
                  have hlt : q < L2.length := by have := hN2.out; omega
                  have i1 : (0 : Int) ≤ (q : Int) := by omega
                  have i2 : (q : Int) < (L2.length : Int) := by omega
                  have wq : IntKind.i64.wrap ((q : Int) - 1) = (q : Int) - 1 := by have := hN2.out; rw [IntKind.wrap_i64]; omega
                  obtain ⟨a, hea, s1⟩ : ∃ a, ad2 = some a ∧ wr.cell? (a.add q) = some (.int .i64 L2[q]) := by
                    rcases (hL2.out.below hT.bel).2.2 with ⟨e, e2⟩ | ⟨a, c, e, hc⟩
                    · omega
                    · cases e
                      exact ⟨a, rfl, hc q _ (ic_at L2 q hlt)⟩
                  subst hea
                  have s0 := Lib.hid (show w.cell? (a.add q) = some (.int .i64 L2[q]) by
                    rcases hL2.out.2.2 with ⟨e, e2⟩ | ⟨a, c, e, hc⟩
                    · omega
                    · cases e
                      exact hc q _ (ic_at L2 q hlt))
                  have htk : L2.take (q + 1) = L2.take q ++ [L2[q]] := by rw [List.take_add_one, List.getElem?_eq_getElem hlt]; rfl
                  rw [htk] at hb
                  generalize L2[q] = x at *
                  have hP := Lib.hid (fun (w9 : World) (B : Nat) (O : Nat → Prop) (h : MemP w9 B mb M' O) (hb : B ≤ w9.heap.size) => kRPop h hb)
                  obtain ⟨h1, h2, h3⟩ := hb.pop (by unfold Sk; omega)
                  rw [h2, h3] at hP
                  have ho := hd.popBack
                  replace h1 := Lib.hid h1
                  replace ho := Lib.hid ho
                  replace hj := Lib.hid hj
                  have tx : (x != x) = false := by simp
                  clear hd hb htk eq hlt hj0 h2 h3
                  go_upto_region 32 with (go_at_call 12; refine (hT.mem (fun B O h hb => hP.out _ _ _ h hb)).mono ?_; rintro e w2 ⟨rfl, hT2⟩; clear hT; have hT := hT2; clear hT2)
                  have s2 := (hT.bel.cell (World.block_lt_of_cell? w _ s0.out)).trans s0.out
                  go_wp2
                  go_roundw
                  case rel => exact ⟨q, _, rfl, by have := hj.out; omega, ho.out, h1.out, hT⟩
                  case measure => simp [intOf]
                · have hj1 : j = 0 := by omega
                  subst hj1
                  rw [show ((0 : Nat) : Int) - 1 = -1 by omega]
                  clear hj0 hj
                  obtain ⟨q1, q2, q3⟩ := hd.none
                  have hb2 : StkIs (popM M' 32 256 512) 40 512 768 [] := by rw [q1]; simpa using hb
                  obtain ⟨p1, p2, p3⟩ := hb2.none
                  rw [q1] at p1 p2 p3
                  have hP := Lib.hid (fun (w9 : World) (B : Nat) (O : Nat → Prop) (h : MemP w9 B mb M' O) (hb : B ≤ w9.heap.size) => kPop h hb)
                  have hQ := Lib.hid (fun (w9 : World) (B : Nat) (O : Nat → Prop) (h : MemP w9 B mb M' O) (hb : B ≤ w9.heap.size) => kRPop h hb)
                  rw [q1, q2, q3] at hP
                  rw [p1, p2, p3] at hQ
                  clear hd hb hb2 q1 q2 q3 p1 p2 p3
                  go_wp2_with (first
                    | (go_at_call 11; refine (hT.mem (fun B O h hb => hP.out _ _ _ h hb)).mono ?_; rintro e w2 ⟨rfl, hT2⟩; clear hT; have hT := hT2; clear hT2)
                    | (go_at_call 12; refine (hT.mem (fun B O h hb => hQ.out _ _ _ h hb)).mono ?_; rintro e w2 ⟨rfl, hT2⟩; clear hT; have hT := hT2; clear hT2))
                  go_ret
                  exact ⟨rfl, hT.bel⟩
end Go.Proofs.Ytjeelccdbhhfjaa
