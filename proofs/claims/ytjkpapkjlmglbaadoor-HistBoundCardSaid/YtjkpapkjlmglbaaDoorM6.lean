/- 'Flat', 'Get', 'Set', 'Bytes'; the memory as others see it. -/
import Derived.Test.YtjkpapkjlmglbaaDoorM5
namespace Go.Proofs.YtjkpapkjlmglbaaDoor
open Go.RowKit
set_option linter.unusedVariables false
set_option linter.unusedSimpArgs false
attribute [local go_sem] cell_set set_set m_undef

theorem MemP.of {w : World} {base mb pb fb : Nat} {F M : List UInt8} {g : Nat → Option Nat} (h : MemI w base mb pb fb F M g) : MemP w base mb M (MemO mb pb fb g) := ⟨pb, fb, F, g, h, fun k => Iff.rfl⟩
theorem MemP.lt {w : World} {base mb : Nat} {M : List UInt8} {O : Nat → Prop} (h : MemP w base mb M O) {k : Nat} (hk : O k) : k < w.heap.size ∧ base ≤ k := by
  obtain ⟨pb, fb, F, g, hI, hO⟩ := h
  exact hI.lt ((hO k).1 hk)
theorem MemP.len {w : World} {base mb : Nat} {M : List UInt8} {O : Nat → Prop} (h : MemP w base mb M O) : M.length = 8192 := by
  obtain ⟨pb, fb, F, g, hI, hO⟩ := h
  exact hI.lenM
theorem MemP.kept {w w' : World} {base mb : Nat} {M : List UInt8} {O : Nat → Prop} {row : Option Nat} (h : MemP w base mb M O) (hg : w.grownBy w' row) (hrow : ∀ k, row = some k → ¬ O k) : MemP w' base mb M O := by
  obtain ⟨pb, fb, F, g, hI, hO⟩ := h
  exact ⟨pb, fb, F, g, hI.kept hg (fun k hk h => hrow k hk ((hO k).2 h)), hO⟩
theorem MemP.below {w w' : World} {base mb : Nat} {M : List UInt8} {O : Nat → Prop} (h : MemP w base mb M O) (hb : Below w.heap.size w w') : MemP w' base mb M O :=
  h.kept (row := none) ⟨hb.os, hb.tape, hb.output, hb.size, fun k hk _ => hb.block k hk⟩ (fun k e => by cases e)
theorem Turn.iff {w w' : World} {O1 O O' : Nat → Prop} (h : Turn w w' O1 O') (hO : ∀ k, O k ↔ O1 k) : Turn w w' O O' :=
  ⟨h.os, h.tape, h.output, h.size, fun k hk hn => h.block k hk (fun h2 => hn ((hO k).2 h2)), fun k hk => by
    rcases h.new k hk with h2 | h2
    · exact .inl ((hO k).2 h2)
    · exact .inr h2⟩
/-- Bytes elsewhere stand. -/
theorem Bs.turn {w w' : World} {B : Nat} {v : Value} {l : List UInt8} {O O' : Nat → Prop} (h : Bs w B v l) (hT : Turn w w' O O') (hO : ∀ k, v.ownBlock = some k → ¬ O k) : Bs w' B v l := by
  rcases h with h | ⟨b, o, c, he, h2, h3, h4, h5, h6⟩
  · exact .inl h
  · have hb := hT.block b h3 (hO b (by rw [he]; rfl))
    refine .inr ⟨b, o, c, he, h2, Nat.lt_of_lt_of_le h3 hT.size, h4, fun i hi => ?_, fun i hi => ?_⟩
    · rw [← h5 i hi]; unfold World.cell?; simp only [hb]
    · rw [← (h6 i hi).2]
      have := (h6 i hi).1
      refine ⟨?_, ?_⟩
      · rw [← this]; unfold World.cell?; simp only [hb]
      · unfold World.frozen?; simp only [hb]
theorem Blk.turn {w w' : World} {b : Nat} {c : Array Value} {t : TypeId} {O O' : Nat → Prop} (h : Blk w b c t) (hT : Turn w w' O O') (hO : ¬ O b) : Blk w' b c t := (hT.block b h.lt hO).trans h
theorem MemP.apart {w w2 : World} {base mb : Nat} {M L : List UInt8} {O : Nat → Prop} {v : Value} (h : MemP w base mb M O) (hv : Bs w2 w.heap.size v L) : ∀ k, v.ownBlock = some k → ¬ O k := fun k hk hO => by
  have h1 := (h.lt hO).1
  rcases hv.lt with e | ⟨x, e, hx1, hx2⟩
  · rw [hk] at e; cases e
  · rw [hk] at e; cases e; omega
/-- 'Load' -/
def LoadQ (w w' : World) (base mb : Nat) (M : List UInt8) (O : Nat → Prop) (L : List UInt8) (e : Ending) : Prop :=
  ∃ v' O', e = .returned v' ∧ Bs w' w.heap.size v' L ∧ MemP w' base mb M O' ∧ Turn w w' O O' ∧ ∀ k, v'.ownBlock = some k → ¬ O' k
theorem mLoad {w : World} {base mb : Nat} {M : List UInt8} {O : Nat → Prop} (h : MemP w base mb M O) (hbase : base ≤ w.heap.size) (a n : Int) (ha : isI a) :
    Calls Tryd.prog 28 #[.pointer (some ⟨mb, 0, none⟩), .int .i64 a, .int .i64 n] w fun e w' => LoadQ w w' base mb M O (loadL M a n) e := by
  obtain ⟨pb, fb, F, g, hI, hO⟩ := h
  refine (wLoad w base mb pb fb F M g hI hbase a n ha).mono ?_
  rintro e w' ⟨v', g', rfl, h1, h2, h3, h4, h5⟩
  exact ⟨v', _, rfl, h1, MemP.of h2, (Turn.of_grown h3 (fun k e => .inl (.inr (.inl (Option.some.inj e).symm))) (fun k hk => MemO.mono h4 hk)).iff hO, h5⟩
/-- What leaves a memory behind. -/
def MemQ (w w' : World) (base mb : Nat) (M' : List UInt8) (O : Nat → Prop) (v : Value) (e : Ending) : Prop := e = .returned v ∧ ∃ O', MemP w' base mb M' O' ∧ Turn w w' O O'
theorem mLay {w : World} {base mb : Nat} {M : List UInt8} {O : Nat → Prop} (h : MemP w base mb M O) (hbase : base ≤ w.heap.size) (a : Int) (ha : isI a) {B : Nat} {v : Value} {bs : List UInt8} (hv : Bs w B v bs) (hbs : bs.length ≤ 1000000) (hvO : ∀ k, v.ownBlock = some k → ¬ O k) :
    Calls Tryd.prog 15 #[.pointer (some ⟨mb, 0, none⟩), .int .i64 a, v] w fun e w' => MemQ w w' base mb (layL M a bs) O (.tuple #[]) e := by
  obtain ⟨pb, fb, F, g, hI, hO⟩ := h
  refine (wLay w base mb pb fb F M g hI hbase a ha B v bs hv hbs (fun k hk hn => hvO k hk ((hO k).2 hn))).mono ?_
  rintro e w' ⟨g', rfl, h2, h3⟩
  exact ⟨rfl, _, MemP.of h2, h3.iff hO⟩
/-- The cell at a place. -/
def getM (M : List UInt8) (a : Int) : Int := cellL (loadL M a 8) 0
def setM (M : List UInt8) (a n : Int) : List UInt8 := layL M a (putCellL (List.replicate 8 0) 0 n)
theorem loadL_len (M : List UInt8) (a n : Int) : (loadL M a n).length = (min (max n 0) 8192).toNat := by simp [loadL]
theorem loadL_get (M : List UInt8) (a n : Int) (i : Nat) (h : i < (loadL M a n).length) : (loadL M a n)[i] = memAt M (a + (i : Int)) := by
  simp [loadL]
theorem mBytes {w : World} {base mb : Nat} {M : List UInt8} {O : Nat → Prop} (h : MemP w base mb M O) (hbase : base ≤ w.heap.size) :
    Calls Tryd.prog 17 #[.pointer (some ⟨mb, 0, none⟩)] w fun e w' => LoadQ w w' base mb M O M e := by
  have hL := Lib.hid (mLoad h hbase 0 8192 (by unfold isI; omega))
  have hlen := h.len
  have he : loadL M 0 8192 = M := by
    apply List.ext_getElem
    · rw [loadL_len, hlen]; rfl
    · intro i h1 h2
      rw [loadL_get]
      unfold memAt
      rw [Int.zero_add, if_pos (by omega), Int.toNat_natCast, List.getD_eq_getElem?_getD, List.getElem?_eq_getElem h2]
      rfl
  rw [he] at hL
  clear he hlen
  go_enter Tryd.func17, Tryd.ntmps17
  go_wp2_with (go_at_call 28; refine hL.out.mono ?_; rintro e w1 ⟨v1, O1, rfl, hv1, hM1, hT1, hn1⟩; obtain ⟨ad, cap, rfl, hcap⟩ := hv1.len; replace hv1 := Lib.hid hv1; replace hM1 := Lib.hid hM1; replace hT1 := Lib.hid hT1; replace hn1 := Lib.hid hn1)
  go_ret
  exact ⟨_, O1, rfl, hv1.out, hM1.out, hT1.out, hn1.out⟩
end Go.Proofs.YtjkpapkjlmglbaaDoor
