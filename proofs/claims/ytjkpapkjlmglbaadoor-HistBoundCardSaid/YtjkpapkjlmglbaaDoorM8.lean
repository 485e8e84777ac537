/- A slice of bytes that is only read; 'Flat' of it. -/
import Derived.Test.YtjkpapkjlmglbaaDoorP1
namespace Go.Proofs.YtjkpapkjlmglbaaDoor
open Go.RowKit
set_option linter.unusedVariables false
set_option linter.unusedSimpArgs false
attribute [local go_sem] cell_set set_set m_undef

/-- The slice value v reads as the bytes l. -/
def Rb (w : World) (v : Value) (l : List UInt8) : Prop :=
  (v = .slice none 0 0 ∧ l = []) ∨ ∃ a cap, v = .slice (some a) l.length cap ∧ ∀ j (hj : j < l.length), w.cell? (a.add j) = some (.int .u8 (l[j].toNat : Int))
theorem Rb.form {w : World} {v : Value} {l : List UInt8} (h : Rb w v l) : ∃ a cap, v = .slice a l.length cap := by
  rcases h with ⟨rfl, rfl⟩ | ⟨a, cap, h1, _⟩
  · exact ⟨_, _, rfl⟩
  · exact ⟨_, _, h1⟩
theorem Bs.rb {w : World} {B : Nat} {v : Value} {l : List UInt8} (h : Bs w B v l) : Rb w v l := by
  rcases h with h | ⟨b, o, cap, rfl, h2, h3, h4, h5, h6⟩
  · exact .inl h
  · exact .inr ⟨⟨b, o, none⟩, cap, rfl, fun j hj => by rw [Addr.add_lit]; exact h5 j hj⟩
theorem Rb.below {w w' : World} {v : Value} {l : List UInt8} (h : Rb w v l) (hb : Below w.heap.size w w') : Rb w' v l := by
  rcases h with h | ⟨a, cap, h1, h2⟩
  · exact .inl h
  · exact .inr ⟨a, cap, h1, fun j hj => (hb.cell (World.block_lt_of_cell? _ _ (h2 j hj))).trans (h2 j hj)⟩
theorem Rb.alloc {w : World} {v : Value} {l : List UInt8} (h : Rb w v l) (o : Obj) : Rb (w.alloc o) v l := h.below (bel_alloc (Below.refl _ _) _)
theorem Rb.copy {P : Program} {w : World} {g : Nat} {cur l : List UInt8} {t dT sT ty e : TypeId} {v : Value} (hg : Blk w g (cb cur).toArray t) (dLen dCap : Nat) (hd : dLen ≤ cur.length) (hv : Rb w v l)
    (hu : P.underlying dT = some (.slice e)) (hs : (P.info? e).map (·.size) = some 1) :
    ∃ w', (Builtin.copy_ #[dT, sT] ty #[.slice (some ⟨g, 0, none⟩) dLen dCap, v]).run P w = .ok (.int .i64 ((min l.length dLen : Nat) : Int)) w' ∧ Blk w' g (cb (l.take dLen ++ cur.drop (min l.length dLen))).toArray t ∧ w.grownBy w' (some g) := by
  rcases hv with ⟨rfl, rfl⟩ | ⟨a, cap, rfl, h5⟩
  · refine ⟨w, ?_, by simpa using hg, ⟨rfl, rfl, rfl, Nat.le_refl _, fun _ _ _ => rfl⟩⟩
    have := run_copy_nil (P := P) w dT sT ty e ⟨g, 0, none⟩ dLen dCap hu (by
      cases h : P.info? e with
      | none => simp [h] at hs
      | some i => rfl)
    simpa [goInt] using this
  · have hlen : (cb (l.take dLen)).length = Nat.min l.length dLen := by rw [cb_len, List.length_take, Nat.min_comm]
    have hrun := run_copy_row (P := P) w dT sT ty e g 0 dLen dCap a l.length cap (cb cur).toArray t (cb (l.take dLen)) hu hs hg hlen (fun j u hu => by
      unfold cb at hu
      rw [List.getElem?_map, Option.map_eq_some_iff] at hu
      obtain ⟨c, hc, rfl⟩ := hu
      obtain ⟨hj, hc⟩ := List.getElem?_eq_some_iff.1 hc
      rw [List.length_take] at hj
      rw [List.getElem_take] at hc
      rw [h5 j (by omega), hc]) (by rw [hlen, Nat.zero_add]; simp only [List.size_toArray, cb_len]; exact Nat.le_trans (Nat.min_le_right _ _) hd) (cb_one _)
    have e0 : goInt (cb (l.take dLen)).length = .int .i64 ((min l.length dLen : Nat) : Int) := by rw [hlen]; rfl
    refine ⟨_, by rw [hrun, e0], ?_, ?_⟩
    · have := setRow_heap w g (cb cur).toArray ((cb cur).toArray.toList.take 0 ++ cb (l.take dLen) ++ (cb cur).toArray.toList.drop (0 + (cb (l.take dLen)).length)).toArray t _ hg
      refine Eq.trans this ?_
      have e2 : (cb cur).toArray.toList.take 0 ++ cb (l.take dLen) ++ (cb cur).toArray.toList.drop (0 + (cb (l.take dLen)).length) = cb (l.take dLen ++ cur.drop (min l.length dLen)) := by
        rw [hlen, Nat.zero_add]
        show [] ++ cb (l.take dLen) ++ (cb cur).drop (min l.length dLen) = _
        simp [cb, List.map_drop]
      rw [e2]
    · exact ⟨rfl, rfl, rfl, by simp [World.setRow], fun k hk hne => setRow_other w g k _ (fun e => hne (by rw [e]))⟩
set_option maxHeartbeats 1000000 in
theorem wFlatR (w : World) (v : Value) (l : List UInt8) (h : Rb w v l) : Calls Tryd.prog 7 #[v] w fun e w' => FlatQ w w' l e := by
  obtain ⟨ad, cap, rfl⟩ := h.form
  have hmk : (Instr.makeSlice 22 (.int .i64 8192) (.int .i64 8192)).run Tryd.prog w = .ok (.slice (some ⟨w.heap.size, 0, none⟩) 8192 8192) (w.alloc (.cells (cb (List.replicate 8192 0)).toArray 5)) := run_made w 8192 (by omega)
  have hF0 : Blk (w.alloc (.cells (cb (List.replicate 8192 0)).toArray 5)) w.heap.size (cb (List.replicate 8192 0)).toArray 5 := Blk.new _ _ _
  have hv1 := h.alloc (.cells (cb (List.replicate 8192 0)).toArray 5)
  have hb1 : Below w.heap.size w (w.alloc (.cells (cb (List.replicate 8192 0)).toArray 5)) := bel_alloc (Below.refl _ w) _
  have hs1 : (w.alloc (.cells (cb (List.replicate 8192 0)).toArray 5)).heap.size = w.heap.size + 1 := World.size_alloc _ _
  generalize w.alloc (.cells (cb (List.replicate 8192 0)).toArray 5) = w1 at *
  obtain ⟨w2, hr, hF2, hg2⟩ := Rb.copy (P := Tryd.prog) (dT := 22) (sT := 22) (ty := 3) (e := 5) hF0 8192 8192 (by rw [List.length_replicate]; exact Nat.le_refl _) hv1 Tryd.underlying22 (by kernel_rfl)
  obtain ⟨m, hm⟩ : ∃ m : Int, ((min l.length 8192 : Nat) : Int) = m := ⟨_, rfl⟩
  rw [hm] at hr
  have hFl : flatL l = l.take 8192 ++ (List.replicate 8192 0).drop (min l.length 8192) := rfl
  rw [← hFl] at hF2
  have hlen := flatL_len l
  have hb2 : Below w.heap.size w w2 := hb1.grown hg2 (by omega) (fun k e => by have := Option.some.inj e; omega)
  have hs2 := hg2.size
  unfold FlatQ
  generalize flatL l = L at *
  clear hm hFl hF0 hv1 hb1
  replace hF2 := Lib.hid hF2
  replace hlen := Lib.hid hlen
  replace hb2 := Lib.hid hb2
  replace h := Lib.hid h
  clear hg2
  have hmm : (Instr.makeMap 43 none).run Tryd.prog w2 = .ok (.map (some w2.heap.size)) (w2.alloc (.map #[] 0)) := by kernel_rfl
  go_enter Tryd.func7, Tryd.ntmps7
  go_wp2
  go_ret
  refine ⟨w2.heap.size + 1, _, rfl, MemP.of (pb := w2.heap.size) (fb := w.heap.size) (F := L) (g := fun _ => none) ⟨hlen.out, hlen.out, Blk.new' (by simp), (hF2.out.alloc _).alloc _, ⟨_, by
    have e : cnt (fun _ => none) = 0 := by simp [cnt]
    rw [e]
    exact (World.ownsMap_made w2 Tryd.prog 3 ptrR).alloc _, PG.empty⟩, ⟨by omega, by omega, Nat.le_refl _⟩, ⟨by omega, by omega, by omega⟩, fun k hk b hb => (by cases hb), fun k hk _ => rfl⟩, bel_alloc (bel_alloc hb2.out _) _⟩
end Go.Proofs.YtjkpapkjlmglbaaDoor
