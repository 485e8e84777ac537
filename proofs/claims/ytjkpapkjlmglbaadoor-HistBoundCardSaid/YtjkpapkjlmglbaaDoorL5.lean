/- Numbers of two bytes. -/
import Derived.Test.YtjkpapkjlmglbaaDoorL4
namespace Go.Proofs.YtjkpapkjlmglbaaDoor
open Go.RowKit
set_option linter.unusedVariables false
set_option linter.unusedSimpArgs false
attribute [local go_sem] cell_set set_set m_undef

set_option maxHeartbeats 1000000 in
/-- 'each' over the closure of function 41. -/
theorem each_num2 (c0 c1 : Value) (a : Option Addr) (n cap : Nat) (at_ : Int) (hat : isI at_) (hn : n ≤ 1000000000000000) (w : World) (Inv : Nat → World → Prop) (h0 : Inv 0 w)
    (hstep : ∀ k wr, k < 2 → Inv k wr → 0 ≤ at_ + k → at_ + k < n → Calls Tryd.prog 41 #[.int .i64 (at_ + k), .int .i64 (k : Int), c0, c1] wr fun e w' => e = .returned (.tuple #[]) ∧ Inv (k + 1) w')
    (hskip : ∀ k wr, k < 2 → Inv k wr → ¬ (0 ≤ at_ + k ∧ at_ + k < n) → Inv (k + 1) wr) :
    Calls Tryd.prog 38 #[.slice a n cap, .int .i64 at_, .int .i64 2, .func (.func 41) #[] #[c0, c1]] w fun e w' => e = .returned (.tuple #[]) ∧ Inv 2 w' := by
  unfold isI at hat
  replace h0 := Lib.hid h0
  replace hstep := Lib.hid hstep
  replace hskip := Lib.hid hskip
  go_enter Tryd.func38, Tryd.ntmps38
  go_wp2
  go_loopw [13] (fun i wr => ∃ k : Nat, k ≤ 2 ∧ i = .int .i64 (k : Int) ∧ Inv k wr) (fun i _ => (2 - (intOf i).toNat))
  case atStart => exact ⟨0, by omega, rfl, h0.out⟩
  case round =>
    obtain ⟨k, hk, rfl, hI⟩ := hrel
    replace hI := Lib.hid hI
    by_cases hk8 : k < 2
    · have w1 : IntKind.i64.wrap ((k : Int) + 1) = ((k + 1 : Nat) : Int) := by rw [IntKind.wrap_i64]; omega
      have t1 : ((k : Int) < 2) = True := by simp; omega
      obtain ⟨kz, hkz⟩ : ∃ kz : Int, kz = (k : Int) := ⟨_, rfl⟩
      rw [← hkz] at w1 t1
      rw [← hkz]
      by_cases hlt : at_ < (n : Int)
      · have t2 : (at_ < (n : Int)) = True := by simp; exact hlt
        obtain ⟨i, hi⟩ : ∃ i : Int, i = at_ + k := ⟨_, rfl⟩
        have w2 : IntKind.i64.wrap (at_ + kz) = i := by rw [IntKind.wrap_i64]; omega
        by_cases h3 : 0 ≤ i
        · have t3 : ((0 : Int) ≤ i) = True := by simp; exact h3
          by_cases h4 : i < (n : Int)
          · have t4 : (i < (n : Int)) = True := by simp; exact h4
            have hc := Lib.hid (hstep.out k _ hk8 hI.out (by omega) (by omega))
            rw [← hi, ← hkz] at hc
            clear hlt h3 h4 hi
            replace hkz := Lib.hid hkz
            go_wp2_with (go_at_call 41; refine hc.out.mono ?_; rintro e w2 ⟨rfl, hI2⟩; replace hI2 := Lib.hid hI2)
            go_roundw
            case rel => exact ⟨k + 1, by omega, rfl, hI2.out⟩
            case measure => have := hkz.out; simp [intOf]; omega
          · have t4 : (i < (n : Int)) = False := by simp; omega
            have hI2 := Lib.hid (hskip.out k _ hk8 hI.out (by omega))
            clear hlt h3 h4 hi
            replace hkz := Lib.hid hkz
            go_wp2
            go_roundw
            case rel => exact ⟨k + 1, by omega, rfl, hI2.out⟩
            case measure => have := hkz.out; simp [intOf]; omega
        · have t3 : ((0 : Int) ≤ i) = False := by simp; omega
          have hI2 := Lib.hid (hskip.out k _ hk8 hI.out (by omega))
          clear hlt h3 hi
          replace hkz := Lib.hid hkz
          go_wp2
          go_roundw
          case rel => exact ⟨k + 1, by omega, rfl, hI2.out⟩
          case measure => have := hkz.out; simp [intOf]; omega
      · have t2 : (at_ < (n : Int)) = False := by simp; omega
        have hI2 := Lib.hid (hskip.out k _ hk8 hI.out (by omega))
        clear hlt
        obtain ⟨i, hi⟩ : ∃ i : Int, IntKind.i64.wrap (at_ + kz) = i := ⟨_, rfl⟩
        replace hkz := Lib.hid hkz
        go_wp2
        go_roundw
        case rel => exact ⟨k + 1, by omega, rfl, hI2.out⟩
        case measure => have := hkz.out; simp [intOf]; omega
    · have hk0 : k = 2 := by omega
      subst hk0
      go_wp2
      (try go_end0)
      exact ⟨rfl, hI.out⟩
set_option maxHeartbeats 1000000 in
/-- 'each' over the closure of function 39. -/
theorem each_put2 (c0 c1 : Value) (a : Option Addr) (n cap : Nat) (at_ : Int) (hat : isI at_) (hn : n ≤ 1000000000000000) (w : World) (Inv : Nat → World → Prop) (h0 : Inv 0 w)
    (hstep : ∀ k wr, k < 2 → Inv k wr → 0 ≤ at_ + k → at_ + k < n → Calls Tryd.prog 39 #[.int .i64 (at_ + k), .int .i64 (k : Int), c0, c1] wr fun e w' => e = .returned (.tuple #[]) ∧ Inv (k + 1) w')
    (hskip : ∀ k wr, k < 2 → Inv k wr → ¬ (0 ≤ at_ + k ∧ at_ + k < n) → Inv (k + 1) wr) :
    Calls Tryd.prog 38 #[.slice a n cap, .int .i64 at_, .int .i64 2, .func (.func 39) #[] #[c0, c1]] w fun e w' => e = .returned (.tuple #[]) ∧ Inv 2 w' := by
  unfold isI at hat
  replace h0 := Lib.hid h0
  replace hstep := Lib.hid hstep
  replace hskip := Lib.hid hskip
  go_enter Tryd.func38, Tryd.ntmps38
  go_wp2
  go_loopw [13] (fun i wr => ∃ k : Nat, k ≤ 2 ∧ i = .int .i64 (k : Int) ∧ Inv k wr) (fun i _ => (2 - (intOf i).toNat))
  case atStart => exact ⟨0, by omega, rfl, h0.out⟩
  case round =>
    obtain ⟨k, hk, rfl, hI⟩ := hrel
    replace hI := Lib.hid hI
    by_cases hk8 : k < 2
    · have w1 : IntKind.i64.wrap ((k : Int) + 1) = ((k + 1 : Nat) : Int) := by rw [IntKind.wrap_i64]; omega
      have t1 : ((k : Int) < 2) = True := by simp; omega
      obtain ⟨kz, hkz⟩ : ∃ kz : Int, kz = (k : Int) := ⟨_, rfl⟩
      rw [← hkz] at w1 t1
      rw [← hkz]
      by_cases hlt : at_ < (n : Int)
      · have t2 : (at_ < (n : Int)) = True := by simp; exact hlt
        obtain ⟨i, hi⟩ : ∃ i : Int, i = at_ + k := ⟨_, rfl⟩
        have w2 : IntKind.i64.wrap (at_ + kz) = i := by rw [IntKind.wrap_i64]; omega
        by_cases h3 : 0 ≤ i
        · have t3 : ((0 : Int) ≤ i) = True := by simp; exact h3
          by_cases h4 : i < (n : Int)
          · have t4 : (i < (n : Int)) = True := by simp; exact h4
            have hc := Lib.hid (hstep.out k _ hk8 hI.out (by omega) (by omega))
            rw [← hi, ← hkz] at hc
            clear hlt h3 h4 hi
            replace hkz := Lib.hid hkz
            go_wp2_with (go_at_call 39; refine hc.out.mono ?_; rintro e w2 ⟨rfl, hI2⟩; replace hI2 := Lib.hid hI2)
            go_roundw
            case rel => exact ⟨k + 1, by omega, rfl, hI2.out⟩
            case measure => have := hkz.out; simp [intOf]; omega
          · have t4 : (i < (n : Int)) = False := by simp; omega
            have hI2 := Lib.hid (hskip.out k _ hk8 hI.out (by omega))
            clear hlt h3 h4 hi
            replace hkz := Lib.hid hkz
            go_wp2
            go_roundw
            case rel => exact ⟨k + 1, by omega, rfl, hI2.out⟩
            case measure => have := hkz.out; simp [intOf]; omega
        · have t3 : ((0 : Int) ≤ i) = False := by simp; omega
          have hI2 := Lib.hid (hskip.out k _ hk8 hI.out (by omega))
          clear hlt h3 hi
          replace hkz := Lib.hid hkz
          go_wp2
          go_roundw
          case rel => exact ⟨k + 1, by omega, rfl, hI2.out⟩
          case measure => have := hkz.out; simp [intOf]; omega
      · have t2 : (at_ < (n : Int)) = False := by simp; omega
        have hI2 := Lib.hid (hskip.out k _ hk8 hI.out (by omega))
        clear hlt
        obtain ⟨i, hi⟩ : ∃ i : Int, IntKind.i64.wrap (at_ + kz) = i := ⟨_, rfl⟩
        replace hkz := Lib.hid hkz
        go_wp2
        go_roundw
        case rel => exact ⟨k + 1, by omega, rfl, hI2.out⟩
        case measure => have := hkz.out; simp [intOf]; omega
    · have hk0 : k = 2 := by omega
      subst hk0
      go_wp2
      (try go_end0)
      exact ⟨rfl, hI.out⟩
set_option maxHeartbeats 1000000 in
theorem wNum2 (w : World) (B : Nat) (v : Value) (l : List UInt8) (a : Int) (h : Bs w B v l) (ha : isI a) (hl : l.length ≤ 1000000000000000) :
    Calls Tryd.prog 30 #[v, .int .i64 a, .int .i64 2] w fun e w' => e = .returned (.int .u64 (leN l a 2 : Int)) ∧ Below w.heap.size w w' := by
  have hmf : ∀ (fn : Fn) (first cap : Array Value) (w : World), (Instr.makeFunc fn first cap).run Tryd.prog w = .ok (.func fn first cap) w := fun _ _ _ _ => rfl
  obtain ⟨ad, cap, rfl, hcap⟩ := h.len
  have hI : ∀ (w0 : World), w0 = (w.alloc (.cells #[.slice ad l.length cap] 22)).alloc (.cells #[.int .u64 0] 56) →
      Calls Tryd.prog 38 #[.slice ad l.length cap, .int .i64 a, .int .i64 2, .func (.func 41) #[] #[.pointer (some ⟨w.heap.size + 1, 0, none⟩), .pointer (some ⟨w.heap.size, 0, none⟩)]] w0
        fun e w' => e = .returned (.tuple #[]) ∧ (Blk w' (w.heap.size + 1) #[.int .u64 (leN l a 2 : Int)] 56 ∧ Blk w' w.heap.size #[.slice ad l.length cap] 22 ∧ Bs w' B (.slice ad l.length cap) l ∧ Below w.heap.size w w') := by
    rintro w0 rfl
    refine each_num2 _ _ ad l.length cap a ha hl _ (fun k wr => Blk wr (w.heap.size + 1) #[.int .u64 (leN l a k : Int)] 56 ∧ Blk wr w.heap.size #[.slice ad l.length cap] 22 ∧ Bs wr B (.slice ad l.length cap) l ∧ Below w.heap.size w wr)
      ⟨Blk.new' (by simp), (Blk.new _ _ _).alloc _, (h.alloc _).alloc _, bel_alloc (bel_alloc (Below.refl _ _) _) _⟩ ?_ ?_
    · rintro k wr hk ⟨h1, h2, h3, h4⟩ hz1 hz2
      obtain ⟨b, o, c, he⟩ := h3.some_of (by intro e; rw [e] at hz2; simp at hz2; omega)
      cases he
      have hj : (a + k).toNat < l.length := by omega
      obtain ⟨g1, g2⟩ := h3.at (a + k).toNat hj
      have hbl : b < w.heap.size := by
        rcases h.lt with e | ⟨j, e, _, hj2⟩
        · cases e
        · cases e; exact hj2
      have hlen := h.len
      refine (num_step wr (w.heap.size + 1) w.heap.size b o l.length cap (a + k).toNat k (leN l a k) (l[(a + k).toNat].toNat) (a + k) (by omega) hj (by omega) (UInt8.toNat_lt _) (leN_lt l a k) h1 (by omega) (by omega) h2.one.1 g1).mono ?_
      rintro e w' ⟨rfl, rfl⟩
      have e1 : leN l a (k + 1) = leN l a k + l[(a + k).toNat].toNat * 2 ^ (8 * k) := by
        rw [leN, byteZ, if_pos ⟨hz1, hz2⟩, List.getD_eq_getElem?_getD, List.getElem?_eq_getElem hj]; rfl
      rw [e1]
      refine ⟨rfl, Blk.drew h1.setOne, (h2.set_other (b' := w.heap.size + 1) (by omega) _ _).drew, Bs.below (h3.set_other (fun e => by have e2 : b = w.heap.size + 1 := Option.some.inj e; omega) _) (bel_drew (Below.refl _ _)), bel_drew (bel_set h4 (by omega) _)⟩
    · rintro k wr hk ⟨h1, h2, h3, h4⟩ hz
      have e1 : leN l a (k + 1) = leN l a k := by rw [leN, byteZ, if_neg hz]; omega
      rw [e1]
      exact ⟨h1, h2, h3, h4⟩
  replace hI := Lib.hid hI
  replace h := Lib.hid h
  go_enter Tryd.func30, Tryd.ntmps30
  go_wp2_with (go_at_call 38; refine (hI.out _ rfl).mono ?_; rintro e w1 ⟨rfl, h1, h2, h3, h4⟩; obtain ⟨k1, k2, k3⟩ := h1.one; replace h1 := Lib.hid h1; replace h2 := Lib.hid h2; replace h3 := Lib.hid h3; replace h4 := Lib.hid h4)
  go_ret
  exact ⟨rfl, h4.out⟩
set_option maxHeartbeats 1000000 in
theorem wPutNum2 (w : World) (B : Nat) (v : Value) (l : List UInt8) (a : Int) (n : Nat) (h : Bs w B v l) (ha : isI a) (hl : l.length ≤ 1000000) :
    Calls Tryd.prog 25 #[v, .int .i64 a, .int .i64 2, .int .u64 (n : Int)] w fun e w' => PutP w w' e (putL l a n 2) := by
  have hmf : ∀ (fn : Fn) (first cap : Array Value) (w : World), (Instr.makeFunc fn first cap).run Tryd.prog w = .ok (.func fn first cap) w := fun _ _ _ _ => rfl
  obtain ⟨ad, cap, rfl, hcap⟩ := h.len
  have hA : Bs (w.alloc (.cells #[.int .u64 (n : Int)] 56)) B (.slice ad l.length cap) l := h.alloc _
  obtain ⟨v2, w2, hr, hv2, hg2, ho2⟩ := Bs.append (P := Tryd.prog) (ty := 22) (Bs.nil (w.alloc (.cells #[.int .u64 (n : Int)] 56)) (w.heap.size + 1)) hA Tryd.underlying22 info5 (by simpa using hl) (by simp)
  simp only [List.nil_append] at hv2
  obtain ⟨ad2, cap2, rfl, hcap2⟩ := hv2.len
  have hbel2 : Below w.heap.size w w2 := (bel_alloc (Below.refl w.heap.size w) _).grown hg2 (by simp) (fun k e => by cases e)
  have hN2 : Blk w2 w.heap.size #[.int .u64 (n : Int)] 56 := (hg2.block w.heap.size (by simp) (by simp [Value.ownBlock])).trans (Blk.new w #[.int .u64 (n : Int)] 56)
  have hA2 : Bs w2 B (.slice ad l.length cap) l := hA.kept hg2 (by
    have : (Value.slice none 0 0).ownBlock = none := rfl
    rw [this]
    cases (Value.slice ad l.length cap).ownBlock <;> simp)
  have hob : w.heap.size + 1 ≤ w2.heap.size := by have := hg2.size; simpa using this
  have hI : ∀ (w0 : World), w0 = w2.alloc (.cells #[.slice ad2 l.length cap2] 22) →
      Calls Tryd.prog 38 #[.slice ad l.length cap, .int .i64 a, .int .i64 2, .func (.func 39) #[] #[.pointer (some ⟨w.heap.size, 0, none⟩), .pointer (some ⟨w2.heap.size, 0, none⟩)]] w0
        fun e w' => e = .returned (.tuple #[]) ∧ (Blk w' w2.heap.size #[.slice ad2 l.length cap2] 22 ∧ Blk w' w.heap.size #[.int .u64 (n : Int)] 56 ∧ Bs w' (w.heap.size + 1) (.slice ad2 l.length cap2) (putL l a n 2) ∧ Below w.heap.size w w') := by
    rintro w0 rfl
    refine each_put2 _ _ ad l.length cap a ha (by omega) _ (fun k wr => Blk wr w2.heap.size #[.slice ad2 l.length cap2] 22 ∧ Blk wr w.heap.size #[.int .u64 (n : Int)] 56 ∧ Bs wr (w.heap.size + 1) (.slice ad2 l.length cap2) (putL l a n k) ∧ Below w.heap.size w wr)
      ⟨Blk.new _ _ _, hN2.alloc _, hv2.alloc _, bel_alloc hbel2 _⟩ ?_ ?_
    · rintro k wr hk ⟨h1, h2, h3, h4⟩ hz1 hz2
      have hpl := putL_len l a n k
      have hne : putL l a n k ≠ [] := by intro e; rw [e] at hpl; simp at hpl; omega
      obtain ⟨b, o, c, he⟩ := h3.some_of hne
      rw [hpl] at he
      cases he
      have hj : (a + k).toNat < (putL l a n k).length := by omega
      obtain ⟨g1, g2⟩ := h3.at (a + k).toNat hj
      have hbl : b < w2.heap.size ∧ w.heap.size + 1 ≤ b := by
        rcases hv2.lt with e | ⟨j, e, hj1, hj2⟩
        · cases e
        · cases e; exact ⟨hj2, hj1⟩
      refine (put_step wr w.heap.size w2.heap.size b o l.length cap2 (a + k).toNat k n (a + k) (by omega) (by omega) (by omega) h1.one.1 h2.one.1 (by omega) (by omega) _ g1 g2).mono ?_
      rintro e w' ⟨rfl, rfl⟩
      have e1 : putL l a n (k + 1) = (putL l a n k).set (a + k).toNat (UInt8.ofNat (n / 2 ^ (8 * k))) := by
        rw [putL, if_pos ⟨hz1, hz2⟩]
      rw [e1]
      refine ⟨rfl, (h1.set_other (b' := b) (by omega) _ _).drew, (h2.set_other (b' := b) (by omega) _ _).drew, Bs.below (h3.setAt _ _ hj) (bel_drew (Below.refl _ _)), bel_drew (bel_set h4 (by omega) _)⟩
    · rintro k wr hk ⟨h1, h2, h3, h4⟩ hz
      have e1 : putL l a n (k + 1) = putL l a n k := by rw [putL, if_neg hz]
      rw [e1]
      exact ⟨h1, h2, h3, h4⟩
  replace hI := Lib.hid hI
  replace h := Lib.hid h
  replace hA := Lib.hid hA
  replace hA2 := Lib.hid hA2
  replace hv2 := Lib.hid hv2
  replace hN2 := Lib.hid hN2
  replace hbel2 := Lib.hid hbel2
  clear hg2 ho2
  go_enter Tryd.func25, Tryd.ntmps25
  go_upto_region 2 with (at_builtin; refine wpList_append_bs rfl _ _ 22 rfl hr rfl rfl ?_)
  go_wp2_with (go_at_call 38; refine (hI.out _ rfl).mono ?_; rintro e w1 ⟨rfl, h1, h2, h3, h4⟩; obtain ⟨k1, k2, k3⟩ := h1.one; replace h1 := Lib.hid h1; replace h2 := Lib.hid h2; replace h3 := Lib.hid h3; replace h4 := Lib.hid h4)
  go_ret
  exact ⟨_, rfl, h3.out.mono (by omega), h4.out⟩
set_option maxHeartbeats 1000000 in
theorem rNum2 (w : World) (B : Nat) (v : Value) (l : List UInt8) (a : Int) (h : Bs w B v l) (ha : isI a) (hl : l.length ≤ 1000000000000000) :
    Calls Tryd.prog 32 #[v, .int .i64 a, .int .i64 2] w fun e w' => e = .returned (.int .u64 (leN l a 2 : Int)) ∧ Below w.heap.size w w' := by
  unfold isI at ha
  obtain ⟨ad, cap, rfl, hcap⟩ := h.len
  replace h := Lib.hid h
  go_enter Tryd.func32, Tryd.ntmps32
  go_wp2
  go_loopw [7, 8] (fun n i wr => Below w.heap.size w wr ∧ ∃ k : Nat, k ≤ 2 ∧ i = .int .i64 (k : Int) ∧ n = .int .u64 (leN l a k : Int)) (fun n i _ => (2 - (intOf i).toNat))
  case atStart => exact ⟨Below.refl _ _, 0, by omega, rfl, rfl⟩
  case round =>
    obtain ⟨hbel, k, hk, rfl, rfl⟩ := hrel
    have hb := h.out.below hbel
    replace hbel := Lib.hid hbel
    have hlt := leN_lt l a k
    obtain ⟨m, hm⟩ : ∃ m, leN l a k = m := ⟨_, rfl⟩
    rw [hm] at hlt ⊢
    by_cases hk8 : k < 2
    · have w1 : IntKind.i64.wrap ((k : Int) + 1) = ((k + 1 : Nat) : Int) := by rw [IntKind.wrap_i64]; omega
      have t1 : ((k : Int) < 2) = True := by simp; omega
      obtain ⟨kz, hkz⟩ : ∃ kz : Int, kz = (k : Int) := ⟨_, rfl⟩
      rw [← hkz] at w1 t1
      rw [← hkz]
      by_cases hin : 0 ≤ a + k ∧ a + k < l.length
      · obtain ⟨hz1, hz2⟩ := hin
        obtain ⟨b, o, c, he⟩ := hb.some_of (by intro e; rw [e] at hz2; simp at hz2; omega)
        cases he
        obtain ⟨j, hj⟩ : ∃ j : Nat, (a + k) = (j : Int) := ⟨(a + k).toNat, by omega⟩
        have hjl : j < l.length := by omega
        obtain ⟨g1, g2⟩ := hb.at j hjl
        have e1 : leN l a (k + 1) = m + l[j].toNat * 2 ^ (8 * k) := by
          rw [leN, byteZ, if_pos ⟨hz1, hz2⟩, List.getD_eq_getElem?_getD, hj, Int.toNat_natCast, List.getElem?_eq_getElem hjl, hm]; rfl
        have hx := UInt8.toNat_lt l[j]
        generalize l[j].toNat = x at *
        have t2 : (a ≤ (l.length : Int)) = True := by simp; omega
        have w2 : IntKind.i64.wrap (a + kz) = (j : Int) := by rw [IntKind.wrap_i64]; omega
        have t4 : ((j : Int) < (l.length : Int)) = True := by simp; omega
        have hsh := shl8 .u64 x k hx (by omega)
        have hor := or8 m x k hx (by omega) hlt
        obtain ⟨z, hz⟩ : ∃ z : Nat, z = x * 2 ^ (8 * k) := ⟨_, rfl⟩
        rw [← hz] at hor hsh
        obtain ⟨q, hq⟩ : ∃ q : Int, q = 8 * (k : Int) := ⟨_, rfl⟩
        rw [← hq] at hsh
        have w3 : IntKind.i64.wrap (8 * kz) = q := by rw [IntKind.wrap_i64]; omega
        have w4 : IntKind.u64.wrap q = q := by rw [IntKind.wrap_u64]; omega
        have w5 : IntKind.u64.wrap (x : Int) = (x : Int) := by rw [IntKind.wrap_u64]; omega
        have e2 : ((m + z : Nat) : Int) = (leN l a (k + 1) : Int) := by rw [e1, hz]
        replace e2 := Lib.hid e2
        replace hkz := Lib.hid hkz
        replace hb := Lib.hid hb
        clear hz hq e1 hj hz1 hz2 hm hlt
        go_wp2
        go_roundw
        case rel => exact ⟨hbel.out, k + 1, by omega, rfl, by rw [← e2.out]; rfl⟩
        case measure => have := hkz.out; simp [intOf]; omega
      · have e1 : leN l a (k + 1) = m := by rw [leN, byteZ, if_neg hin, hm]; omega
        replace e1 := Lib.hid e1
        clear hm hlt
        by_cases hle : a ≤ l.length
        · have t2 : (a ≤ (l.length : Int)) = True := by simp; omega
          obtain ⟨i, hi⟩ : ∃ i : Int, i = a + k := ⟨_, rfl⟩
          have w2 : IntKind.i64.wrap (a + kz) = i := by rw [IntKind.wrap_i64]; omega
          by_cases h0 : 0 ≤ i
          · have t3 : ((0 : Int) ≤ i) = True := by simp; exact h0
            have t4 : (i < (l.length : Int)) = False := by simp; omega
            replace hkz := Lib.hid hkz
            clear hi hin hle h0
            replace hb := Lib.hid hb
            go_wp2
            go_roundw
            case rel => exact ⟨hbel.out, k + 1, by omega, rfl, by rw [e1.out]⟩
            case measure => have := hkz.out; simp [intOf]; omega
          · have t3 : ((0 : Int) ≤ i) = False := by simp; omega
            replace hkz := Lib.hid hkz
            clear hi hin hle h0
            replace hb := Lib.hid hb
            go_wp2
            go_roundw
            case rel => exact ⟨hbel.out, k + 1, by omega, rfl, by rw [e1.out]⟩
            case measure => have := hkz.out; simp [intOf]; omega
        · have t2 : (a ≤ (l.length : Int)) = False := by simp; omega
          obtain ⟨i, hi⟩ : ∃ i : Int, IntKind.i64.wrap (a + kz) = i := ⟨_, rfl⟩
          replace hkz := Lib.hid hkz
          clear hin hle
          replace hb := Lib.hid hb
          go_wp2
          go_roundw
          case rel => exact ⟨hbel.out, k + 1, by omega, rfl, by rw [e1.out]⟩
          case measure => have := hkz.out; simp [intOf]; omega
    · have hk0 : k = 2 := by omega
      subst hk0
      replace hm := Lib.hid hm
      clear hlt
      replace hb := Lib.hid hb
      go_wp2
      go_ret
      exact ⟨by rw [hm.out]; rfl, hbel.out⟩
end Go.Proofs.YtjkpapkjlmglbaaDoor
