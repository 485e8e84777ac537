/- 'SpaceCopies'. -/
import Derived.Test.YtekfceolignihaaDoorS21
import Derived.Test.YtekfceolignihaaDoorS23
import Derived.Test.YtekfceolignihaaDoorOP
namespace Go.Proofs.YtekfceolignihaaDoor
open Go.RowKit
set_option linter.unusedVariables false
set_option linter.unusedSimpArgs false
attribute [local go_sem] cell_set set_set m_undef
attribute [local irreducible] freeW cnt freeL

def holdW (C : List Int) (n : Int) : List Int := if inC C n then C.set n.toNat (IntKind.i64.wrap (atC C n + 1)) else C
theorem holdW_len (C : List Int) (n : Int) : (holdW C n).length = C.length := by unfold holdW; split <;> simp
theorem kHoldW {W w : World} {K : Kp} {mb cb fb cc fc : Nat} {C : List Int} {T U : List Value} {mk : Bool} (h : Pls W w (K.and (MapC mb cb fb C cc fc T U mk))) (ha : Apart K mb cb fb) (hn : C.length ≤ 1000000) (n : Int) :
    Calls Tryd.prog 9 #[.pointer (some ⟨mb, 0, none⟩), .int .i64 n] w fun e w' => ∃ x, e = .returned (.int .i64 x) ∧ Pls W w' (K.and (MapC mb cb fb (holdW C n) cc fc T U mk)) := by
  unfold holdW
  by_cases hc : inC C n
  · rw [if_pos hc]
    obtain ⟨k, rfl, h2, hl, hx⟩ := in_nat hc
    exact (kHoldC h ha hn k h2 _ _ hx rfl).mono fun e w' ⟨he, hS⟩ => ⟨_, he, hS⟩
  · rw [if_neg hc]
    exact (kHold_no h.fact.2 n hc).mono fun e w' ⟨he, hw⟩ => ⟨_, he, hw ▸ h⟩
theorem Pls.out {W w : World} {K A B C : Kp} (h : Pls W w (((K.and A).and B).and C)) : Pls W w (((K.and B).and A).and C) :=
  h.keep (fun h => ⟨⟨⟨h.1.1.1, h.1.2⟩, h.1.1.2⟩, h.2⟩) (fun k hk => by
    rcases hk with ((hk | hk) | hk) | hk
    · exact .inl (.inl (.inl hk))
    · exact .inl (.inr hk)
    · exact .inl (.inl (.inr hk))
    · exact .inr hk)
set_option maxRecDepth 100000 in
set_option maxHeartbeats 4000000 in
theorem spaceCopies {w : World} (s : Int) (v : Value) (A : List ActR) (hA2 : Acts w v A) (v2 : Value) (B : List ActR) (hB2 : Acts w v2 B) (hs : isI s) (hlen : A.length ≤ 9223372036854775807) (hlenB : B.length ≤ 9223372036854775807) (hT : TabAt 0 Lib.deBruijn64tab w) :
    Calls Tryd.prog 5 #[.int .i64 s, v, v2] w fun e w' => e = .returned (.bool true) ∧ Below w.heap.size w w' := by
  have hA := Lib.hid (wAwake w hT)
  obtain ⟨ad, cap, rfl⟩ := hA2.form
  obtain ⟨ad2, cap2, rfl⟩ := hB2.form
  obtain ⟨S, hSum⟩ : ∃ S, IntKind.i64.wrap ((A.length : Int) + (B.length : Int)) = S := ⟨_, rfl⟩
  by_cases h3 : 300 < s
  · have t1 : (300 < s) = True := eq_true h3
    clear hA2 hB2 hT
    go_enter Tryd.func5, Tryd.ntmps5
    go_wp2_with (go_at_call 7; refine hA.out.mono ?_; rintro e w1 ⟨rfl, hb1⟩)
    go_ret
    exact ⟨rfl, hb1⟩
  have t1 : (300 < s) = False := eq_false h3
  by_cases h2 : 200 < S
  · have t2 : (200 < S) = True := eq_true h2
    clear hA2 hB2 hT
    go_enter Tryd.func5, Tryd.ntmps5
    go_wp2_with (go_at_call 7; refine hA.out.mono ?_; rintro e w1 ⟨rfl, hb1⟩)
    go_ret
    exact ⟨rfl, hb1⟩
  have t2 : (200 < S) = False := eq_false h2
  obtain ⟨n, hn⟩ : ∃ n : Nat, (n : Int) = min (max s 0) 2000 := ⟨(min (max s 0) 2000).toNat, by omega⟩
  have hN := Lib.hid (fun w9 => kNewC w9 s n hn)
  have hR := Lib.hid (fun (w9 : World) (K9 : Kp) (h9 : Pls w w9 K9) => rNew h9 s n hn)
  have hn3 : n ≤ 2000 := by omega
  replace hA2 := Lib.hid hA2
  replace hB2 := Lib.hid hB2
  replace hT := Lib.hid hT
  clear hn h3 h2
  go_enter Tryd.func5, Tryd.ntmps5
  go_upto_region 8 with (first
    | (go_at_call 7; refine hA.out.mono ?_; rintro e w1 ⟨rfl, hb1⟩; replace hb1 := Lib.hid hb1)
    | (go_at_call 8; refine (hN.out _).mono ?_; rintro e w2 ⟨mb, cb, fb, rfl, ha, hS1⟩; have hS : Pls w w2 (Kp.emp.and (MapC mb cb fb (List.replicate n 0) n (n / 64 + 1) [] [] true)) := ⟨bel_trans hb1.out hS1.1, hS1.2.1, fun k hk => ⟨Nat.le_trans hb1.out.size (hS1.2.2 k hk).1, (hS1.2.2 k hk).2⟩⟩; clear hS1; replace ha := Lib.hid ha)
    | (go_at_call 14; refine (hR.out _ _ hS).mono ?_; rintro e w3 ⟨rb, hb, rfl, har, hS3⟩; have hS4 := Pls.swap2 hS3; clear hS3 hS; replace har := Lib.hid har))
  clear hN hA hb1 hR hSum t1 t2
  go_wp2
  go_loopw [34] (fun i wr => ∃ (k : Nat) (C : List Int), i = .int .i64 (k : Int) ∧ k ≤ A.length ∧ C.length = n ∧ Good (k : Int) C ∧ Pls w wr ((Kp.emp.and (RefB rb hb C n [])).and (MapC mb cb fb C n (n / 64 + 1) [] [] true))) (fun i _ => (A.length - (intOf i).toNat))
  case atStart => exact ⟨0, _, rfl, by omega, by simp, Good.zeros n, hS4⟩
  case round =>
    obtain ⟨k, C, rfl, hk, hCl, hg, hS⟩ := hrel
    clear hS4
    by_cases hlt : k < A.length
    · have t5 : ((k : Int) < (A.length : Int)) = True := eq_true (by omega)
      have i1 : (0 : Int) ≤ (k : Int) := by omega
      have i2 : (k : Int) < (A.length : Int) := by omega
      have wk : IntKind.i64.wrap ((k : Int) + 1) = ((k + 1 : Nat) : Int) := by rw [IntKind.wrap_i64]; omega
      obtain ⟨x, hx⟩ : ∃ x, A[k]? = some x := ⟨A[k], List.getElem?_eq_getElem hlt⟩
      obtain ⟨a, hea, z0, z1, _⟩ := hA2.out.at k x hx
      subst hea
      have z0 := (hS.bel.cell (World.block_lt_of_cell? w _ z0)).trans z0
      have z1 := (hS.bel.cell (World.block_lt_of_cell? w _ z1)).trans z1
      rw [add_next a (k * 2) 0] at z1
      rw [Nat.add_zero] at z0
      have hk2 : (k : Int) ≤ 9223372036854775806 := by omega
      replace hlt := Lib.hid hlt
      generalize x.d = d at *
      generalize x.n = nn at *
      clear hx hk
      go_upto_region 11 with fail
      have hS2 := hS.alloc (.cells #[.int .i64 d, .int .i64 nn] 27)
      have hB := Blk.new wr #[.int .i64 d, .int .i64 nn] 27
      obtain ⟨b5, hb5⟩ : ∃ b5, b5 = wr.heap.size := ⟨_, rfl⟩
      obtain ⟨w5, hw5⟩ : ∃ w5, w5 = wr.alloc (.cells #[.int .i64 d, .int .i64 nn] 27) := ⟨_, rfl⟩
      rw [← hw5] at hS2 hB ⊢
      rw [← hb5] at hB ⊢
      have y0 : w5.cell? ⟨b5, 0, none⟩ = some (.int .i64 d) := Blk.cell hB 0
      have y1 : w5.cell? ⟨b5, 1, none⟩ = some (.int .i64 nn) := Blk.cell hB 1
      clear hS hw5 hb5 z0 z1 hB
      have hT5 := Lib.hid (TabAt.below hT.out hS2.bel)
      have hg2 := Lib.hid (hg.act (by omega) d nn)
      have hl2 : (actC C d nn).length = n := by rw [actC_len]; exact hCl
      have hact := Lib.hid (wAct hS2 ha.out har.out hT5.out (by omega) hg hk2 d nn)
      clear hg hS2
      go_wp2_with (go_at_call 15; refine hact.out.mono ?_; rintro e w6 ⟨rfl, hS6⟩)
      go_roundw
      case rel => exact ⟨k + 1, _, rfl, hlt.out, hl2, hg2.out, hS6⟩
      case measure => have := hlt.out; simp [intOf]; omega
    · have t5 : ((k : Int) < (A.length : Int)) = False := eq_false (by omega)
      clear hlt hk
      have hcp := Lib.hid (kCopy hS (by omega) (by rw [freeL_len]; omega))
      replace hg := Lib.hid hg
      clear hS
      go_upto_region 14 with (go_at_call 17; refine hcp.out.mono ?_; rintro e w6 ⟨m2, c2, f2, cc2, fc2, T2, U2, rfl, hap2, hS6⟩)
      have hS7 := Pls.out hS6
      replace hap2 := Lib.hid hap2
      clear hS6 hcp
      have hal := Lib.hid (wAlike hS7 (by omega) hg.out)
      clear hS7
      go_upto_region 16 with (go_at_call 16; refine hal.out.mono ?_; rintro e w7 ⟨rfl, hS8⟩)
      have hS := Pls.out hS8
      have hS : Pls w w7 (((Kp.emp.and (RefB rb hb C n [])).and (MapC mb cb fb C n (n / 64 + 1) [] [] true)).and (MapC m2 c2 f2 C cc2 fc2 T2 U2 true)) := hS
      clear hS8 hal
      go_wp2
      go_loopw [55] (fun i wr => ∃ (k : Nat) (D : List Int), i = .int .i64 (k : Int) ∧ k ≤ B.length ∧ D.length = n ∧ Pls w wr (((Kp.emp.and (RefB rb hb C n [])).and (MapC mb cb fb C n (n / 64 + 1) [] [] true)).and (MapC m2 c2 f2 D cc2 fc2 T2 U2 true))) (fun i _ => (B.length - (intOf i).toNat))
      case atStart => exact ⟨0, _, rfl, by omega, hCl, hS⟩
      case round =>
        clear hS
        obtain ⟨k, D, rfl, hk, hDl, hS⟩ := hrel
        by_cases hlt : k < B.length
        · have t5 : ((k : Int) < (B.length : Int)) = True := eq_true (by omega)
          have i1 : (0 : Int) ≤ (k : Int) := by omega
          have i2 : (k : Int) < (B.length : Int) := by omega
          have wk : IntKind.i64.wrap ((k : Int) + 1) = ((k + 1 : Nat) : Int) := by rw [IntKind.wrap_i64]; omega
          obtain ⟨x, hx⟩ : ∃ x, B[k]? = some x := ⟨B[k], List.getElem?_eq_getElem hlt⟩
          obtain ⟨a, hea, z0, z1, _⟩ := hB2.out.at k x hx
          subst hea
          have z0 := (hS.bel.cell (World.block_lt_of_cell? w _ z0)).trans z0
          have z1 := (hS.bel.cell (World.block_lt_of_cell? w _ z1)).trans z1
          rw [add_next a (k * 2) 0] at z1
          rw [Nat.add_zero] at z0
          replace hlt := Lib.hid hlt
          generalize x.d = d at *
          generalize x.n = nn at *
          clear hx hk
          go_upto_region 19 with fail
          have hS2 := hS.alloc (.cells #[.int .i64 d, .int .i64 nn] 27)
          have hB := Blk.new wr #[.int .i64 d, .int .i64 nn] 27
          obtain ⟨b5, hb5⟩ : ∃ b5, b5 = wr.heap.size := ⟨_, rfl⟩
          obtain ⟨w5, hw5⟩ : ∃ w5, w5 = wr.alloc (.cells #[.int .i64 d, .int .i64 nn] 27) := ⟨_, rfl⟩
          rw [← hw5] at hS2 hB ⊢
          rw [← hb5] at hB ⊢
          have y0 : w5.cell? ⟨b5, 0, none⟩ = some (.int .i64 d) := Blk.cell hB 0
          have y1 : w5.cell? ⟨b5, 1, none⟩ = some (.int .i64 nn) := Blk.cell hB 1
          clear hS hw5 hb5 z0 z1 hB
          by_cases d2 : d = 2
          · have e2 : (d == 2) = true := by simp; exact d2
            have hT5 := Lib.hid (TabAt.below hT.out hS2.bel)
            have hl2 : (takeC D).length = n := by rw [takeC_len]; exact hDl
            have hact := Lib.hid (kTakeF hS2 hap2.out hT5.out (by omega))
            clear hS2 d2
            go_wp2_with (go_at_call 11; refine hact.out.mono ?_; rintro e w6 ⟨rfl, hS6⟩)
            go_roundw
            case rel => exact ⟨k + 1, _, rfl, hlt.out, hl2, hS6⟩
            case measure => have := hlt.out; simp [intOf]; omega
          · have e2 : (d == 2) = false := by simp; exact d2
            have hl2 : (holdW D nn).length = n := by rw [holdW_len]; exact hDl
            have hact := Lib.hid (kHoldW hS2 hap2.out (by omega) nn)
            clear hS2 d2
            go_wp2_with (go_at_call 9; refine hact.out.mono ?_; rintro e w6 ⟨xr, rfl, hS6⟩)
            go_roundw
            case rel => exact ⟨k + 1, _, rfl, hlt.out, hl2, hS6⟩
            case measure => have := hlt.out; simp [intOf]; omega
        · have t5 : ((k : Int) < (B.length : Int)) = False := eq_false (by omega)
          clear hlt hk
          have hal := Lib.hid (wAlike hS.weak (by omega) hg.out)
          go_wp2_with (go_at_call 16; refine hal.out.mono ?_; rintro e w6 ⟨rfl, hS6⟩)
          go_ret
          exact ⟨rfl, hS6.bel⟩
end Go.Proofs.YtekfceolignihaaDoor
