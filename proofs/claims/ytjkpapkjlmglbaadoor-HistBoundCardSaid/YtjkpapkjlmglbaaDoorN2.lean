/- The reference's memory: 'Load'. -/
import Derived.Test.YtjkpapkjlmglbaaDoorN1
namespace Go.Proofs.YtjkpapkjlmglbaaDoor
open Go.RowKit
set_option linter.unusedVariables false
set_option linter.unusedSimpArgs false
attribute [local go_sem] cell_set set_set m_undef

set_option maxRecDepth 100000 in
set_option maxHeartbeats 1600000 in
theorem rLoad {w : World} {base rb : Nat} {M : List UInt8} {R : Nat → Prop} (h : RefP w base rb M R) (a n : Int) (ha : isI a) :
    Calls Tryd.prog 16 #[.pointer (some ⟨rb, 0, none⟩), .int .i64 a, .int .i64 n] w fun e w' => ∃ v', e = .returned v' ∧ Bs w' w.heap.size v' (loadL M a n) ∧ Below w.heap.size w w' := by
  obtain ⟨vb, ob, ⟨h1, h2, h3, cap, ws, nn, hB, hv⟩, hR⟩ := h
  unfold isI at ha
  obtain ⟨N, hN⟩ : ∃ N : Nat, N = (min (max n 0) 8192).toNat := ⟨_, rfl⟩
  have hloadL : loadL M a n = partL M a N N := by
    unfold loadL partL
    rw [← hN]
    apply List.map_congr_left
    intro i hi
    rw [if_pos (List.mem_range.1 hi)]
  rw [hloadL]
  have hmin : (if (8192 : Int) < (if n < 0 then 0 else n) then 8192 else (if n < 0 then 0 else n)) = (N : Int) := by split <;> split <;> omega
  obtain ⟨m0, hm0⟩ : ∃ m0, (if n < 0 then (0 : Int) else n) = m0 := ⟨_, rfl⟩
  rw [hm0] at hmin
  have hN8 : N ≤ 8192 := by omega
  have hmk := run_made w N (by omega)
  clear hN hloadL
  have hb1 : Below w.heap.size w (w.alloc (.cells (cb (List.replicate N 0)).toArray 5)) := bel_alloc (Below.refl _ _) _
  have hB1 : Bs (w.alloc (.cells (cb (List.replicate N 0)).toArray 5)) w.heap.size (.slice (some ⟨w.heap.size, 0, none⟩) N N) (List.replicate N 0) :=
    (Bs.of_blk (n := N) (Blk.new w (cb (List.replicate N 0)).toArray 5) (by simp)).rebase (fun k hk => by have e' : w.heap.size = k := Option.some.inj hk; omega)
  have hBl := hB.lt
  have hvl := hv.lt2.2
  have hbl0 : w.heap.size < (w.alloc (.cells (cb (List.replicate N 0)).toArray 5)).heap.size := by rw [World.size_alloc]; omega
  go_enter Tryd.func16, Tryd.ntmps16
  go_upto_region 2 with fail
  generalize hw1 : w.alloc (.cells (cb (List.replicate N 0)).toArray 5) = w1 at *
  replace hB := Lib.hid hB
  replace hv := Lib.hid hv
  replace hb1 := Lib.hid hb1
  clear hm0 hmin hmk hw1 hR
  go_wp2
  go_loopw [15] (fun i wr => ∃ (j : Nat), j ≤ N ∧ i = .int .i64 (j : Int) ∧ Bs wr w.heap.size (.slice (some ⟨w.heap.size, 0, none⟩) N N) (partL M a N j) ∧ Below w.heap.size w wr) (fun i _ => (N - (intOf i).toNat))
  case atStart => exact ⟨0, by omega, rfl, by rw [partL_zero]; exact hB1, hb1.out⟩
  case round =>
    clear hB1
    obtain ⟨j, hj, rfl, hB2, hb2⟩ := hrel
    have hBr := hB.out.below hb2
    have hvr := hv.out.below hb2
    obtain ⟨y1, y1f⟩ : wr.cell? ⟨rb, 0, none⟩ = some (.slice (some ⟨vb, ob, none⟩) 8192 cap) ∧ wr.frozen? ⟨rb, 0, none⟩ = false := ⟨by rw [hBr.cell]; rfl, hBr.frozen _⟩
    by_cases hjN : j < N
    · have w1' : IntKind.i64.wrap ((j : Int) + 1) = ((j + 1 : Nat) : Int) := by rw [IntKind.wrap_i64]; omega
      have t2 : ((j : Int) < (N : Int)) = True := by simp; omega
      by_cases h8 : a ≤ 8192
      · have t1 : (a ≤ 8192) = True := by simp; exact h8
        by_cases hin : 0 ≤ a + j ∧ a + j < 8192
        · obtain ⟨kN, hkN⟩ : ∃ kN : Nat, (kN : Int) = a + j := ⟨(a + j).toNat, by omega⟩
          have w2 : IntKind.i64.wrap (a + (j : Int)) = (kN : Int) := by rw [IntKind.wrap_i64]; omega
          have t3 : ((kN : Int) < 8192) = True := by simp; omega
          have hk8 : kN < 8192 := by omega
          have hstep := partL_step M a N j hjN
          have hmem : memAt M (a + j) = M[kN]'(by rw [h1]; exact hk8) := by
            rw [memAt, if_pos hin, ← hkN, Int.toNat_natCast, List.getD_eq_getElem?_getD, List.getElem?_eq_getElem (by rw [h1]; exact hk8)]
            rfl
          rw [hmem] at hstep
          obtain ⟨q1, q1f⟩ := hvr.at kN (by rw [h1]; exact hk8)
          obtain ⟨r1, r2⟩ := hB2.at j (by rw [partL_len]; exact hjN)
          rw [Nat.zero_add] at r1 r2
          have hB6 := hB2.setAt j (M[kN]'(by rw [h1]; exact hk8)) (by rw [partL_len]; exact hjN)
          rw [Nat.zero_add, ← hstep] at hB6
          have hb6 := bel_set hb2 (Nat.le_refl w.heap.size) (o := j) (.int .u8 ((M[kN]'(by rw [h1]; exact hk8)).toNat : Int))
          obtain ⟨x, hx⟩ : ∃ x, x = M[kN]'(by rw [h1]; exact hk8) := ⟨_, rfl⟩
          rw [← hx] at q1 hB6 hb6
          replace hB6 := Lib.hid hB6
          replace hb6 := Lib.hid hb6
          clear hin hkN hmem hstep hx hBr hvr hB2 hb2 h8
          go_wp2
          go_roundw
          case rel => exact ⟨j + 1, by omega, rfl, hB6.out, hb6.out⟩
          case measure => simp [intOf]; omega
        · obtain ⟨i, hi⟩ : ∃ i : Int, i = a + j := ⟨_, rfl⟩
          have w2 : IntKind.i64.wrap (a + (j : Int)) = i := by rw [IntKind.wrap_i64]; omega
          have hout := Lib.hid (partL_out M a N j hjN hin)
          replace hB2 := Lib.hid hB2
          replace hb2 := Lib.hid hb2
          by_cases h0 : 0 ≤ i
          · have t3 : ((0 : Int) ≤ i) = True := by simp; exact h0
            have t4 : (i < 8192) = False := by simp; omega
            clear hi hin h0 h8 hBr hvr
            go_wp2
            go_roundw
            case rel => exact ⟨j + 1, by omega, rfl, by rw [hout.out]; exact hB2.out, hb2.out⟩
            case measure => simp [intOf]; omega
          · have t3 : ((0 : Int) ≤ i) = False := by simp; omega
            clear hi hin h0 h8 hBr hvr
            go_wp2
            go_roundw
            case rel => exact ⟨j + 1, by omega, rfl, by rw [hout.out]; exact hB2.out, hb2.out⟩
            case measure => simp [intOf]; omega
      · have t1 : (a ≤ 8192) = False := by simp; omega
        have hout := Lib.hid (partL_out M a N j hjN (by omega))
        replace hB2 := Lib.hid hB2
        replace hb2 := Lib.hid hb2
        clear h8 hBr hvr
        go_wp2
        go_roundw
        case rel => exact ⟨j + 1, by omega, rfl, by rw [hout.out]; exact hB2.out, hb2.out⟩
        case measure => simp [intOf]; omega
    · have hjs : j = N := by omega
      subst hjs
      have t2 : ((j : Int) < (j : Int)) = False := by simp
      replace hB2 := Lib.hid hB2
      replace hb2 := Lib.hid hb2
      clear hj hBr hvr
      go_wp2
      go_ret
      exact ⟨_, rfl, hB2.out, hb2.out⟩
end Go.Proofs.YtjkpapkjlmglbaaDoor
