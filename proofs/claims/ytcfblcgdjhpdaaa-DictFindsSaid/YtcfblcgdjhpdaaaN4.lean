/- The reference's memory: 'Set'. -/
import Derived.Test.YtcfblcgdjhpdaaaQR
import Derived.Test.YtcfblcgdjhpdaaaQ2
namespace Go.Proofs.Ytcfblcgdjhpdaaa
open Go.RowKit
set_option linter.unusedVariables false
set_option linter.unusedSimpArgs false
attribute [local go_sem] cell_set set_set m_undef

theorem Blk.c3 {w : World} {b : Nat} {x y z : Value} {t : TypeId} (h : Blk w b #[x, y, z] t) : (w.cell? ⟨b, 0, none⟩ = some x ∧ w.cell? ⟨b, 1, none⟩ = some y ∧ w.cell? ⟨b, 2, none⟩ = some z) ∧ w.frozen? ⟨b, 0, none⟩ = false ∧ w.frozen? ⟨b, 1, none⟩ = false ∧ w.frozen? ⟨b, 2, none⟩ = false :=
  ⟨⟨h.cell 0, h.cell 1, h.cell 2⟩, h.frozen 0, h.frozen 1, h.frozen 2⟩
set_option maxHeartbeats 1000000 in
theorem rSet {w : World} {B rb : Nat} {M : List UInt8} {R : Nat → Prop} (h : RefP w B rb M R) (a n : Int) (ha : isI a) :
    Calls Try.prog 20 #[.pointer (some ⟨rb, 0, none⟩), .int .i64 a, .int .i64 n] w fun e w' => RefQ w w' B rb (setM M a n) R (.tuple #[]) e := by
  obtain ⟨vb, ob, ⟨h1, h2, h3, cap, ws, nn, hB, hM⟩, hR⟩ := h
  have hPC := Lib.hid (rPutCell w B _ M a n hM ha (by rw [h1]; omega))
  have hm := putCell_mem h1 a n
  rw [hm] at hPC
  have hlen : (setM M a n).length = 8192 := by rw [setM_len]; exact h1
  generalize setM M a n = M2 at *
  have hrl := Lib.hid hB.lt
  obtain ⟨⟨y1, y2, y3⟩, z1, z2, z3⟩ := hB.c3
  replace hB := Lib.hid hB
  replace hlen := Lib.hid hlen
  replace h2 := Lib.hid h2
  clear hm h1 hM
  go_enter Try.func20, Try.ntmps20
  go_wp2_with (go_at_call 49; refine hPC.out.mono ?_; rintro e w2 ⟨v, rfl, hv, hb⟩; obtain ⟨b, o, c, rfl⟩ := hv.some_of (by intro e; have := hlen.out; rw [e] at this; simp at this); rw [hlen.out] at hv ⊢; have hB2 := hB.out.below hb; clear y1 y2 y3 z1 z2 z3; obtain ⟨⟨y1, y2, y3⟩, z1, z2, z3⟩ := hB2.c3; replace hb := Lib.hid hb; replace hv := Lib.hid hv)
  (try go_end0)
  have hb2 : w.heap.size ≤ b := hv.out.lt2.1
  have hT : Turn w (w2.setCell ⟨rb, 0, none⟩ (.slice (some ⟨b, o, none⟩) 8192 c)) R (fun k => k = rb ∨ k = b) :=
    ⟨hb.out.os, hb.out.tape, hb.out.output, by rw [World.size_setCell]; exact hb.out.size, fun k hk hn => (Below.heap_setCell _ _ _ _ (fun e => hn ((hR k).2 (.inl e)))).trans (hb.out.block k hk), fun k hk => by
      rcases hk with rfl | rfl
      · exact .inl ((hR _).2 (.inl rfl))
      · exact .inr hb2⟩
  refine ⟨rfl, _, ⟨b, o, ⟨hlen.out, h2.out, by have := hrl.out; omega, c, ws, nn, ?_, ?_⟩, fun k => Iff.rfl⟩, hT⟩
  · exact hB2.set 0 _
  · exact ((hv.out.set_other (fun e => by have e2 := Option.some.inj e; have e3 : b = rb := e2; have := hrl.out; omega) _)).mono (by have := h2.out; have := hrl.out; omega)
end Go.Proofs.Ytcfblcgdjhpdaaa
