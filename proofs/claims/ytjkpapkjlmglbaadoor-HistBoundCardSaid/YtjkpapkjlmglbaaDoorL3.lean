/- 'Num', 'PutNum', 'Cell', 'PutCell' of le. -/
import Derived.Test.YtjkpapkjlmglbaaDoorL2
namespace Go.Proofs.YtjkpapkjlmglbaaDoor
open Go.RowKit
set_option linter.unusedVariables false
set_option linter.unusedSimpArgs false
attribute [local go_sem] cell_set set_set m_undef

theorem info5 : (Tryd.prog.info? 5).map (fun i => (i.zero, i.size, i.bytes)) = some (some (.int .u8 0), 1, 1) := by kernel_rfl
/-- The byte at a place, if there is one. -/
def byteZ (l : List UInt8) (z : Int) : Nat := if 0 ≤ z ∧ z < l.length then (l.getD z.toNat 0).toNat else 0
/-- The number of k bytes from a place on. -/
def leN (l : List UInt8) (a : Int) : Nat → Nat
  | 0 => 0
  | k + 1 => leN l a k + byteZ l (a + k) * 2 ^ (8 * k)
theorem byteZ_lt (l : List UInt8) (z : Int) : byteZ l z < 256 := by
  unfold byteZ
  split
  · exact UInt8.toNat_lt _
  · omega
theorem leN_lt (l : List UInt8) (a : Int) (k : Nat) : leN l a k < 2 ^ (8 * k) := by
  induction k with
  | zero => simp [leN]
  | succ k ih =>
    have h := byteZ_lt l (a + k)
    have e : (2 : Nat) ^ (8 * (k + 1)) = 256 * 2 ^ (8 * k) := by rw [Nat.mul_add, Nat.pow_add, Nat.mul_comm]
    rw [leN, e]
    have h2 : byteZ l (a + k) * 2 ^ (8 * k) ≤ 255 * 2 ^ (8 * k) := Nat.mul_le_mul_right _ (by omega)
    omega
/-- A number's k bytes, laid from a place on. -/
def putL (l : List UInt8) (a : Int) (v : Nat) : Nat → List UInt8
  | 0 => l
  | k + 1 => if 0 ≤ a + k ∧ a + k < l.length then (putL l a v k).set (a + k).toNat (UInt8.ofNat (v / 2 ^ (8 * k))) else putL l a v k
theorem putL_len (l : List UInt8) (a : Int) (v k : Nat) : (putL l a v k).length = l.length := by
  induction k with
  | zero => rfl
  | succ k ih => rw [putL]; split <;> simp [ih]
/-- A cell: eight bytes, signed. -/
def cellL (l : List UInt8) (a : Int) : Int := IntKind.i64.wrap (leN l a 8 : Int)
def putCellL (l : List UInt8) (a : Int) (n : Int) : List UInt8 := putL l a (IntKind.u64.wrap n).toNat 8
theorem Bs.some_of {w : World} {B : Nat} {v : Value} {l : List UInt8} (h : Bs w B v l) (hl : l ≠ []) : ∃ b o c, v = .slice (some ⟨b, o, none⟩) l.length c := by
  rcases h with ⟨_, h⟩ | ⟨b, o, cap, h, _⟩
  · exact absurd h hl
  · exact ⟨b, o, cap, h⟩
theorem Bs.at {w : World} {B b o n cap : Nat} {l : List UInt8} (h : Bs w B (.slice (some ⟨b, o, none⟩) n cap) l) (k : Nat) (hk : k < l.length) : w.cell? ⟨b, o + k, none⟩ = some (.int .u8 (l[k].toNat : Int)) ∧ w.frozen? ⟨b, o + k, none⟩ = false := by
  rcases h with ⟨h, _⟩ | ⟨b', o', cap', he, h2, h3, h4, h5, h6⟩
  · cases h
  · cases he
    exact ⟨h5 k hk, (h6 k (by omega)).2⟩
theorem Bs.setAt {w : World} {B b o n cap : Nat} {l : List UInt8} (h : Bs w B (.slice (some ⟨b, o, none⟩) n cap) l) (k : Nat) (c : UInt8) (hk : k < l.length) : Bs (w.setCell ⟨b, o + k, none⟩ (.int .u8 (c.toNat : Int))) B (.slice (some ⟨b, o, none⟩) n cap) (l.set k c) := by
  rcases h with ⟨h, _⟩ | ⟨b', o', cap', he, h2, h3, h4, h5, h6⟩
  · cases h
  · cases he
    refine .inr ⟨b, o, cap, by rw [List.length_set], h2, by simpa using h3, by rw [List.length_set]; exact h4, fun j hj => ?_, fun j hj => ?_⟩
    · rw [List.length_set] at hj
      by_cases e : k = j
      · subst e
        rw [cell_set, h5 k hk]; simp
      · rw [List.getElem_set_ne e]
        exact (World.cell?_setCell_other w (a := ⟨b, o + k, none⟩) (b := ⟨b, o + j, none⟩) _ (by intro h; have h2 := congrArg Addr.off h; simp at h2; omega)).trans (h5 j hj)
    · have hs := (h6 j hj).1
      refine ⟨?_, by rw [World.frozen?_setCell]; exact (h6 j hj).2⟩
      by_cases e : k = j
      · subst e
        rw [cell_set]; obtain ⟨u, hu⟩ := Option.isSome_iff_exists.1 hs; simp [hu]
      · rw [World.cell?_setCell_other w (a := ⟨b, o + k, none⟩) (b := ⟨b, o + j, none⟩) _ (by intro h; have h2 := congrArg Addr.off h; simp at h2; omega)]
        exact hs
theorem Bs.below {w w' : World} {B : Nat} {v : Value} {l : List UInt8} (h : Bs w B v l) (hb : Below w.heap.size w w') : Bs w' B v l :=
  h.kept (row := none) ⟨hb.os, hb.tape, hb.output, hb.size, fun k hk _ => hb.block k hk⟩ (by cases v.ownBlock <;> simp)
theorem grownBy_setCell (w : World) (b o : Nat) (v : Value) : w.grownBy (w.setCell ⟨b, o, none⟩ v) (some b) := ⟨rfl, rfl, rfl, by simp, fun k _ hk => Below.heap_setCell _ _ _ _ (fun e => hk (by rw [e]))⟩
theorem Bs.alloc {w : World} {B : Nat} {v : Value} {l : List UInt8} (h : Bs w B v l) (o : Obj) : Bs (w.alloc o) B v l := h.kept (World.grownBy_alloc w o none) (by cases v.ownBlock <;> simp)
theorem Bs.lt {w : World} {B : Nat} {v : Value} {l : List UInt8} (h : Bs w B v l) : v.ownBlock = none ∨ ∃ k, v.ownBlock = some k ∧ B ≤ k ∧ k < w.heap.size := by
  rcases h with ⟨rfl, _⟩ | ⟨b, o, cap, rfl, h2, h3, _⟩
  · exact .inl rfl
  · exact .inr ⟨b, rfl, h2, h3⟩
theorem Bs.ne_top {w : World} {B : Nat} {v : Value} {l : List UInt8} (h : Bs w B v l) {k : Nat} (hk : w.heap.size ≤ k) : v.ownBlock ≠ some k := by
  rcases h.lt with e | ⟨j, e, _, hj⟩
  · rw [e]; simp
  · rw [e]; intro e2; cases e2; omega
/-- Bytes in a block that is not turned. -/
theorem Bs.set_other {w : World} {B : Nat} {v : Value} {l : List UInt8} (h : Bs w B v l) {b o : Nat} (hne : v.ownBlock ≠ some b) (u : Value) : Bs (w.setCell ⟨b, o, none⟩ u) B v l := h.kept (grownBy_setCell w b o u) (.inr hne)

set_option maxHeartbeats 1000000 in
theorem wNum (w : World) (B : Nat) (v : Value) (l : List UInt8) (a : Int) (h : Bs w B v l) (ha : isI a) (hl : l.length ≤ 1000000000000000) :
    Calls Tryd.prog 30 #[v, .int .i64 a, .int .i64 8] w fun e w' => e = .returned (.int .u64 (leN l a 8 : Int)) ∧ Below w.heap.size w w' := by
  have hmf : ∀ (fn : Fn) (first cap : Array Value) (w : World), (Instr.makeFunc fn first cap).run Tryd.prog w = .ok (.func fn first cap) w := fun _ _ _ _ => rfl
  obtain ⟨ad, cap, rfl, hcap⟩ := h.len
  have hI : ∀ (w0 : World), w0 = (w.alloc (.cells #[.slice ad l.length cap] 22)).alloc (.cells #[.int .u64 0] 56) →
      Calls Tryd.prog 38 #[.slice ad l.length cap, .int .i64 a, .int .i64 8, .func (.func 41) #[] #[.pointer (some ⟨w.heap.size + 1, 0, none⟩), .pointer (some ⟨w.heap.size, 0, none⟩)]] w0
        fun e w' => e = .returned (.tuple #[]) ∧ (Blk w' (w.heap.size + 1) #[.int .u64 (leN l a 8 : Int)] 56 ∧ Blk w' w.heap.size #[.slice ad l.length cap] 22 ∧ Bs w' B (.slice ad l.length cap) l ∧ Below w.heap.size w w') := by
    rintro w0 rfl
    refine each_num _ _ ad l.length cap a ha hl _ (fun k wr => Blk wr (w.heap.size + 1) #[.int .u64 (leN l a k : Int)] 56 ∧ Blk wr w.heap.size #[.slice ad l.length cap] 22 ∧ Bs wr B (.slice ad l.length cap) l ∧ Below w.heap.size w wr)
      ⟨Blk.new' (by simp), (Blk.new _ _ _).alloc _, (h.alloc _).alloc _, bel_alloc (bel_alloc (Below.refl _ _) _) _⟩ ?_ ?_
    · rintro k wr hk ⟨h1, h2, h3, h4⟩ hz1 hz2
      obtain ⟨b, o, c, he⟩ := h3.some_of (by intro e; rw [e] at hz2; simp at hz2; omega)
      cases he
      have hj : (a + k).toNat < l.length := by omega
      obtain ⟨g1, g2⟩ := h3.at (a + k).toNat hj
      have hbl : b < w.heap.size := by
        rcases h.lt with e | ⟨j, e, _, hj2⟩
        · cases e
        · cases e; exact hj2
      have hlen := h.len
      refine (num_step wr (w.heap.size + 1) w.heap.size b o l.length cap (a + k).toNat k (leN l a k) (l[(a + k).toNat].toNat) (a + k) (by omega) hj hk (UInt8.toNat_lt _) (leN_lt l a k) h1 (by omega) (by omega) h2.one.1 g1).mono ?_
      rintro e w' ⟨rfl, rfl⟩
      have e1 : leN l a (k + 1) = leN l a k + l[(a + k).toNat].toNat * 2 ^ (8 * k) := by
        rw [leN, byteZ, if_pos ⟨hz1, hz2⟩, List.getD_eq_getElem?_getD, List.getElem?_eq_getElem hj]; rfl
      rw [e1]
      refine ⟨rfl, Blk.drew h1.setOne, (h2.set_other (b' := w.heap.size + 1) (by omega) _ _).drew, Bs.below (h3.set_other (fun e => by have e2 : b = w.heap.size + 1 := Option.some.inj e; omega) _) (bel_drew (Below.refl _ _)), bel_drew (bel_set h4 (by omega) _)⟩
    · rintro k wr hk ⟨h1, h2, h3, h4⟩ hz
      have e1 : leN l a (k + 1) = leN l a k := by rw [leN, byteZ, if_neg hz]; omega
      rw [e1]
      exact ⟨h1, h2, h3, h4⟩
  replace hI := Lib.hid hI
  replace h := Lib.hid h
  go_enter Tryd.func30, Tryd.ntmps30
  go_wp2_with (go_at_call 38; refine (hI.out _ rfl).mono ?_; rintro e w1 ⟨rfl, h1, h2, h3, h4⟩; obtain ⟨k1, k2, k3⟩ := h1.one; replace h1 := Lib.hid h1; replace h2 := Lib.hid h2; replace h3 := Lib.hid h3; replace h4 := Lib.hid h4)
  go_ret
  exact ⟨rfl, h4.out⟩
/-- What 'PutNum' gives. -/
def PutP (w w' : World) (e : Ending) (m : List UInt8) : Prop := ∃ v', e = .returned v' ∧ Bs w' w.heap.size v' m ∧ Below w.heap.size w w'
set_option maxHeartbeats 1000000 in
theorem wPutNum (w : World) (B : Nat) (v : Value) (l : List UInt8) (a : Int) (n : Nat) (h : Bs w B v l) (ha : isI a) (hl : l.length ≤ 1000000) :
    Calls Tryd.prog 25 #[v, .int .i64 a, .int .i64 8, .int .u64 (n : Int)] w fun e w' => PutP w w' e (putL l a n 8) := by
  have hmf : ∀ (fn : Fn) (first cap : Array Value) (w : World), (Instr.makeFunc fn first cap).run Tryd.prog w = .ok (.func fn first cap) w := fun _ _ _ _ => rfl
  obtain ⟨ad, cap, rfl, hcap⟩ := h.len
  have hA : Bs (w.alloc (.cells #[.int .u64 (n : Int)] 56)) B (.slice ad l.length cap) l := h.alloc _
  obtain ⟨v2, w2, hr, hv2, hg2, ho2⟩ := Bs.append (P := Tryd.prog) (ty := 22) (Bs.nil (w.alloc (.cells #[.int .u64 (n : Int)] 56)) (w.heap.size + 1)) hA Tryd.underlying22 info5 (by simpa using hl) (by simp)
  simp only [List.nil_append] at hv2
  obtain ⟨ad2, cap2, rfl, hcap2⟩ := hv2.len
  have hbel2 : Below w.heap.size w w2 := (bel_alloc (Below.refl w.heap.size w) _).grown hg2 (by simp) (fun k e => by cases e)
  have hN2 : Blk w2 w.heap.size #[.int .u64 (n : Int)] 56 := (hg2.block w.heap.size (by simp) (by simp [Value.ownBlock])).trans (Blk.new w #[.int .u64 (n : Int)] 56)
  have hA2 : Bs w2 B (.slice ad l.length cap) l := hA.kept hg2 (by
    have : (Value.slice none 0 0).ownBlock = none := rfl
    rw [this]
    cases (Value.slice ad l.length cap).ownBlock <;> simp)
  have hob : w.heap.size + 1 ≤ w2.heap.size := by have := hg2.size; simpa using this
  have hI : ∀ (w0 : World), w0 = w2.alloc (.cells #[.slice ad2 l.length cap2] 22) →
      Calls Tryd.prog 38 #[.slice ad l.length cap, .int .i64 a, .int .i64 8, .func (.func 39) #[] #[.pointer (some ⟨w.heap.size, 0, none⟩), .pointer (some ⟨w2.heap.size, 0, none⟩)]] w0
        fun e w' => e = .returned (.tuple #[]) ∧ (Blk w' w2.heap.size #[.slice ad2 l.length cap2] 22 ∧ Blk w' w.heap.size #[.int .u64 (n : Int)] 56 ∧ Bs w' (w.heap.size + 1) (.slice ad2 l.length cap2) (putL l a n 8) ∧ Below w.heap.size w w') := by
    rintro w0 rfl
    refine each_put _ _ ad l.length cap a ha (by omega) _ (fun k wr => Blk wr w2.heap.size #[.slice ad2 l.length cap2] 22 ∧ Blk wr w.heap.size #[.int .u64 (n : Int)] 56 ∧ Bs wr (w.heap.size + 1) (.slice ad2 l.length cap2) (putL l a n k) ∧ Below w.heap.size w wr)
      ⟨Blk.new _ _ _, hN2.alloc _, hv2.alloc _, bel_alloc hbel2 _⟩ ?_ ?_
    · rintro k wr hk ⟨h1, h2, h3, h4⟩ hz1 hz2
      have hpl := putL_len l a n k
      have hne : putL l a n k ≠ [] := by intro e; rw [e] at hpl; simp at hpl; omega
      obtain ⟨b, o, c, he⟩ := h3.some_of hne
      rw [hpl] at he
      cases he
      have hj : (a + k).toNat < (putL l a n k).length := by omega
      obtain ⟨g1, g2⟩ := h3.at (a + k).toNat hj
      have hbl : b < w2.heap.size ∧ w.heap.size + 1 ≤ b := by
        rcases hv2.lt with e | ⟨j, e, hj1, hj2⟩
        · cases e
        · cases e; exact ⟨hj2, hj1⟩
      refine (put_step wr w.heap.size w2.heap.size b o l.length cap2 (a + k).toNat k n (a + k) (by omega) (by omega) hk h1.one.1 h2.one.1 (by omega) (by omega) _ g1 g2).mono ?_
      rintro e w' ⟨rfl, rfl⟩
      have e1 : putL l a n (k + 1) = (putL l a n k).set (a + k).toNat (UInt8.ofNat (n / 2 ^ (8 * k))) := by
        rw [putL, if_pos ⟨hz1, hz2⟩]
      rw [e1]
      refine ⟨rfl, (h1.set_other (b' := b) (by omega) _ _).drew, (h2.set_other (b' := b) (by omega) _ _).drew, Bs.below (h3.setAt _ _ hj) (bel_drew (Below.refl _ _)), bel_drew (bel_set h4 (by omega) _)⟩
    · rintro k wr hk ⟨h1, h2, h3, h4⟩ hz
      have e1 : putL l a n (k + 1) = putL l a n k := by rw [putL, if_neg hz]
      rw [e1]
      exact ⟨h1, h2, h3, h4⟩
  replace hI := Lib.hid hI
  replace h := Lib.hid h
  replace hA := Lib.hid hA
  replace hA2 := Lib.hid hA2
  replace hv2 := Lib.hid hv2
  replace hN2 := Lib.hid hN2
  replace hbel2 := Lib.hid hbel2
  clear hg2 ho2
  go_enter Tryd.func25, Tryd.ntmps25
  go_upto_region 2 with (at_builtin; refine wpList_append_bs rfl _ _ 22 rfl hr rfl rfl ?_)
  go_wp2_with (go_at_call 38; refine (hI.out _ rfl).mono ?_; rintro e w1 ⟨rfl, h1, h2, h3, h4⟩; obtain ⟨k1, k2, k3⟩ := h1.one; replace h1 := Lib.hid h1; replace h2 := Lib.hid h2; replace h3 := Lib.hid h3; replace h4 := Lib.hid h4)
  go_ret
  exact ⟨_, rfl, h3.out.mono (by omega), h4.out⟩
end Go.Proofs.YtjkpapkjlmglbaaDoor
