/- 'SpaceActs'. -/
import Derived.Test.YtekfceolignihaaDoorS21
import Derived.Test.YtekfceolignihaaDoorOP
namespace Go.Proofs.YtekfceolignihaaDoor
open Go.RowKit
set_option linter.unusedVariables false
set_option linter.unusedSimpArgs false
attribute [local go_sem] cell_set set_set m_undef
attribute [local irreducible] freeW cnt freeL

set_option maxRecDepth 100000 in
set_option maxHeartbeats 4000000 in
theorem spaceActs {w : World} (s : Int) (v : Value) (A : List ActR) (hA2 : Acts w v A) (hs : isI s) (hlen : A.length ≤ 9223372036854775807) (hT : TabAt 0 Lib.deBruijn64tab w) :
    Calls Tryd.prog 4 #[.int .i64 s, v] w fun e w' => e = .returned (.bool true) ∧ Below w.heap.size w w' := by
  have hA := Lib.hid (wAwake w hT)
  obtain ⟨ad, cap, rfl⟩ := hA2.form
  by_cases hout : (300 < s ∧ s ≤ 5000) ∨ 200 < A.length
  · by_cases h3 : 300 < s
    · have t1 : (300 < s) = True := eq_true h3
      by_cases h5 : s ≤ 5000
      · have t5 : (s ≤ 5000) = True := eq_true h5
        clear hA2 hT hout h3 h5
        go_enter Tryd.func4, Tryd.ntmps4
        go_wp2_with (go_at_call 7; refine hA.out.mono ?_; rintro e w1 ⟨rfl, hb1⟩)
        go_ret
        exact ⟨rfl, hb1⟩
      · have t5 : (s ≤ 5000) = False := eq_false h5
        have t2 : ((200 : Int) < (A.length : Int)) = True := eq_true (by omega)
        clear hA2 hT hout h3 h5
        go_enter Tryd.func4, Tryd.ntmps4
        go_wp2_with (go_at_call 7; refine hA.out.mono ?_; rintro e w1 ⟨rfl, hb1⟩)
        go_ret
        exact ⟨rfl, hb1⟩
    · have t1 : (300 < s) = False := eq_false h3
      have t2 : ((200 : Int) < (A.length : Int)) = True := eq_true (by omega)
      clear hA2 hT hout h3
      go_enter Tryd.func4, Tryd.ntmps4
      go_wp2_with (go_at_call 7; refine hA.out.mono ?_; rintro e w1 ⟨rfl, hb1⟩)
      go_ret
      exact ⟨rfl, hb1⟩
  have t2 : ((200 : Int) < (A.length : Int)) = False := eq_false (by omega)
  obtain ⟨n, hn⟩ : ∃ n : Nat, (n : Int) = min (max s 0) 2000 := ⟨(min (max s 0) 2000).toNat, by omega⟩
  have hN := Lib.hid (fun w9 => kNewC w9 s n hn)
  have hR := Lib.hid (fun (w9 : World) (K9 : Kp) (h9 : Pls w w9 K9) => rNew h9 s n hn)
  have hn3 : n ≤ 2000 := by omega
  have hA200 : A.length ≤ 200 := by omega
  replace hA2 := Lib.hid hA2
  replace hT := Lib.hid hT
  have key : ∀ (b3 b5 : Bool), decide (300 < s) = b3 → decide (s ≤ 5000) = b5 → (b3 && b5) = false → Calls Tryd.prog 4 #[.int .i64 s, .slice ad A.length cap] w fun e w' => e = .returned (.bool true) ∧ Below w.heap.size w w' := by
    intro b3 b5 e3 e5 e35
    clear hn hout
    go_enter Tryd.func4, Tryd.ntmps4
    go_upto_region 3 with (go_at_call 7; refine hA.out.mono ?_; rintro e w1 ⟨rfl, hb1⟩; replace hb1 := Lib.hid hb1)
    cases b3 <;> cases b5
    case true.true => cases e35
    all_goals
    · simp only [decide_eq_true_eq, decide_eq_false_iff_not] at e3 e5
      first | replace e3 := eq_false e3 | replace e3 := eq_true e3
      first | replace e5 := eq_false e5 | replace e5 := eq_true e5
      clear e35
      go_upto_region 8 with (first
        | (go_at_call 8; refine (hN.out _).mono ?_; rintro e w2 ⟨mb, cb, fb, rfl, ha, hS1⟩; have hS : Pls w w2 (Kp.emp.and (MapC mb cb fb (List.replicate n 0) n (n / 64 + 1) [] [] true)) := ⟨bel_trans hb1.out hS1.1, hS1.2.1, fun k hk => ⟨Nat.le_trans hb1.out.size (hS1.2.2 k hk).1, (hS1.2.2 k hk).2⟩⟩; clear hS1; replace ha := Lib.hid ha)
        | (go_at_call 14; refine (hR.out _ _ hS).mono ?_; rintro e w3 ⟨rb, hb, rfl, har, hS3⟩; have hS4 := Pls.swap2 hS3; clear hS3 hS; replace har := Lib.hid har))
      clear hN hA hb1 hR
      go_wp2
      go_loopw [30] (fun i wr => ∃ (k : Nat) (C : List Int), i = .int .i64 (k : Int) ∧ k ≤ A.length ∧ C.length = n ∧ Good (k : Int) C ∧ Pls w wr ((Kp.emp.and (RefB rb hb C n [])).and (MapC mb cb fb C n (n / 64 + 1) [] [] true))) (fun i _ => (A.length - (intOf i).toNat))
      case atStart => exact ⟨0, _, rfl, by omega, by simp, Good.zeros n, hS4⟩
      case round =>
        obtain ⟨k, C, rfl, hk, hCl, hg, hS⟩ := hrel
        clear hS4
        by_cases hlt : k < A.length
        · have t5 : ((k : Int) < (A.length : Int)) = True := eq_true (by omega)
          have i1 : (0 : Int) ≤ (k : Int) := by omega
          have i2 : (k : Int) < (A.length : Int) := by omega
          have wk : IntKind.i64.wrap ((k : Int) + 1) = ((k + 1 : Nat) : Int) := by rw [IntKind.wrap_i64]; omega
          obtain ⟨x, hx⟩ : ∃ x, A[k]? = some x := ⟨A[k], List.getElem?_eq_getElem hlt⟩
          obtain ⟨a, hea, z0, z1, _⟩ := hA2.out.at k x hx
          subst hea
          have z0 := (hS.bel.cell (World.block_lt_of_cell? w _ z0)).trans z0
          have z1 := (hS.bel.cell (World.block_lt_of_cell? w _ z1)).trans z1
          rw [add_next a (k * 2) 0] at z1
          rw [Nat.add_zero] at z0
          have hk2 : (k : Int) + 1 ≤ 201 := by omega
          replace hlt := Lib.hid hlt
          generalize x.d = d at *
          generalize x.n = nn at *
          clear hx hk
          go_upto_region 11 with fail
          have hS2 := hS.alloc (.cells #[.int .i64 d, .int .i64 nn] 27)
          have hB := Blk.new wr #[.int .i64 d, .int .i64 nn] 27
          obtain ⟨b5, hb5⟩ : ∃ b5, b5 = wr.heap.size := ⟨_, rfl⟩
          obtain ⟨w5, hw5⟩ : ∃ w5, w5 = wr.alloc (.cells #[.int .i64 d, .int .i64 nn] 27) := ⟨_, rfl⟩
          rw [← hw5] at hS2 hB ⊢
          rw [← hb5] at hB ⊢
          have y0 : w5.cell? ⟨b5, 0, none⟩ = some (.int .i64 d) := Blk.cell hB 0
          have y1 : w5.cell? ⟨b5, 1, none⟩ = some (.int .i64 nn) := Blk.cell hB 1
          clear hS hw5 hb5 z0 z1 hB
          have hT5 := Lib.hid (TabAt.below hT.out hS2.bel)
          have hg2 := Lib.hid (hg.act (by omega) d nn)
          have hl2 : (actC C d nn).length = n := by rw [actC_len]; exact hCl
          have hact := Lib.hid (wAct hS2 ha.out har.out hT5.out (by omega) hg (by omega) d nn)
          clear hg hS2
          go_wp2_with (go_at_call 15; refine hact.out.mono ?_; rintro e w6 ⟨rfl, hS6⟩)
          go_roundw
          case rel => exact ⟨k + 1, _, rfl, hlt.out, hl2, hg2.out, hS6⟩
          case measure => have := hlt.out; simp [intOf]; omega
        · have t5 : ((k : Int) < (A.length : Int)) = False := eq_false (by omega)
          clear hlt hk
          have hal := Lib.hid (wAlike hS (by omega) hg)
          go_wp2_with (go_at_call 16; refine hal.out.mono ?_; rintro e w6 ⟨rfl, hS6⟩)
          go_ret
          exact ⟨rfl, hS6.bel⟩
  refine key _ _ rfl rfl ?_
  simp
  omega
end Go.Proofs.YtekfceolignihaaDoor
