/- The shelf's contracts of package strings and strconv, laid. -/
import Derived.Test.YtjkpapkjlmglbaaDoorL5
import Derived.Test.YtjkpapkjlmglbaaDoorU1
import Derived.Test.YtjkpapkjlmglbaaDoorRF
import Derived.Shelf.Strings.Cut
import Derived.Shelf.Strings.Prefix
import Derived.Shelf.Strings.Builder1
import Derived.Shelf.Strings.Replace
import Derived.Shelf.Strconv.Itoa3
import Derived.Shelf.LaysM
import Derived.Test.YtjkpapkjlmglbaaDoorSH
import Derived.Lib.QuietBelow
namespace Go.Proofs
open Go.Shelf
namespace YtjkpapkjlmglbaaDoor
open Go.RowKit
theorem exStr : Builder.Extra Tryd.prog laysStr_ren := {
  sizeBuilder := by kernel_rfl
  liesBuilder := by kernel_rfl
  t5 := laysRep.t5
  a5 := laysRep.a5
  z5 := laysRep.z5
  v5 := laysRep.v5
  infoByte := by kernel_rfl
  cellsByte := by kernel_rfl
  sizeByte := by kernel_rfl
  neB5 := by decide }
theorem exRep : Builder.Extra Tryd.prog laysRep_ren := {
  sizeBuilder := by kernel_rfl
  liesBuilder := by kernel_rfl
  t5 := laysRep.t5
  a5 := laysRep.a5
  z5 := laysRep.z5
  v5 := laysRep.v5
  infoByte := by kernel_rfl
  cellsByte := by kernel_rfl
  sizeByte := by kernel_rfl
  neB5 := by decide }
set_option maxRecDepth 10000 in
theorem laysWrS : Lays.n166 Tryd.prog laysRep_ren := { laysRep with }
theorem hasSuffix_ (s : ByteArray) (w : World) (hs : s.size ≤ 1000000) : Calls Tryd.prog 31 #[.string s, .string ⟨#[10]⟩] w fun e w' => e = .returned (.bool (Lib.hasSuffix s.data.toList [10])) ∧ w' = w :=
  Any.strings_HasSuffix laysSuf s ⟨#[10]⟩ w (by omega)
/-- The library's variable that Cut reads is laid. -/
def MaxB (w : World) : Prop := ∃ m : Int, w.cell? ⟨0, 0, none⟩ = some (.int .i64 m)
theorem MaxB.below {W w : World} (h : MaxB W) (hb : Below W.heap.size W w) : MaxB w := by
  obtain ⟨m, hm⟩ := h
  exact ⟨m, (hb.cell (World.block_lt_of_cell? W _ hm)).trans hm⟩
theorem str_size (l : List UInt8) : (⟨l.toArray⟩ : ByteArray).size = l.length := by simp [ByteArray.size]
theorem cut_ (l : List UInt8) (w : World) (h : MaxB w) (hl : l.length ≤ 1000000) : Calls Tryd.prog 24 #[.string ⟨l.toArray⟩, .string ⟨#[10]⟩] w fun e w' =>
    e = .returned (.tuple #[.string ⟨(Lib.cut l [10]).1.toArray⟩, .string ⟨(Lib.cut l [10]).2.1.toArray⟩, .bool (Lib.cut l [10]).2.2]) ∧ ∃ n, w' = w.drewN n := by
  obtain ⟨m, hm⟩ := h
  exact Any.strings_Cut { laysCut with } ⟨l.toArray⟩ ⟨#[10]⟩ m w (by rw [str_size]; omega) hm
theorem replace_ (l : List UInt8) (w : World) (h : MaxB w) (hl : l.length ≤ 1000000) : Calls Tryd.prog 23 #[.string ⟨l.toArray⟩, .string ⟨#[10]⟩, .string ⟨#[]⟩] w fun e w' =>
    e = .returned (.string ⟨(l.filter (fun c => decide (c ≠ 10))).toArray⟩) ∧ Below w.heap.size w w' := by
  obtain ⟨m, hm⟩ := h
  have c := Any.strings_ReplaceAll { laysRep with } exRep ⟨l.toArray⟩ ⟨#[10]⟩ ⟨#[]⟩ m w (by rw [str_size]; omega) hm (by decide) (by rw [str_size]; show l.length + _ * 0 ≤ _; omega)
  have e : Lib.replaceAll (⟨l.toArray⟩ : ByteArray).data.toList (⟨#[10]⟩ : ByteArray).data.toList (⟨#[]⟩ : ByteArray).data.toList = l.filter (fun c => decide (c ≠ 10)) := replaceAll_filter l
  rw [e] at c
  exact c
theorem itoa_ (n : Int) (hn : isI n) (w : World) (htab : Lib.TabIs Tryd.prog w "internal/strconv.uint64pow10" .u64 Lib.pow10Tab) :
    Calls Tryd.prog 21 #[.int .i64 n] w fun e w' => e = .returned (.string ⟨(Lib.itoa n).toArray⟩) ∧ Below w.heap.size w w' :=
  (Any.strconv_Itoa laysIto n (by unfold isI at hn; omega) (by unfold isI at hn; omega) w htab).mono fun e w' ⟨he, k, os, hw⟩ => ⟨he, by subst hw; exact below_regrown w (w.drawn + k) os⟩
/-- Texts as values. -/
def sl (L : List (List UInt8)) : List Value := L.map fun l => .string ⟨l.toArray⟩
theorem sl_len (L : List (List UInt8)) : (sl L).length = L.length := by simp [sl]
theorem sl_at (L : List (List UInt8)) (k : Nat) (h : k < L.length) : (sl L)[k]? = some (.string ⟨L[k].toArray⟩) := by simp [sl, List.getElem?_eq_getElem h]
theorem Rv.cellAt {w : World} {ad : Option Addr} {n n' cap : Nat} {cs : List Value} (h : Rv w 1 (.slice ad n cap) n' cs) (k : Nat) (u : Value) (hu : cs[k]? = some u) : ∃ a, ad = some a ∧ w.cell? (a.add k) = some u := by
  rcases h.2.2 with ⟨e, e2⟩ | ⟨a, cap', e, h5⟩
  · have h1 := h.1
    have := (List.getElem?_eq_some_iff.1 hu).1
    omega
  · cases e; exact ⟨a, rfl, h5 k u hu⟩
theorem flatten_take (L : List (List UInt8)) (k : Nat) (h : k < L.length) : (L.take (k + 1)).flatten = (L.take k).flatten ++ L[k] := by
  rw [List.take_succ_eq_append_getElem h, List.flatten_append]; simp
theorem flatten_take_le (L : List (List UInt8)) (k : Nat) : (L.take k).flatten.length ≤ L.flatten.length := by
  have h : L.flatten = (L.take k).flatten ++ (L.drop k).flatten := by rw [← List.flatten_append, List.take_append_drop]
  rw [h, List.length_append]; omega
set_option maxRecDepth 100000 in
set_option maxHeartbeats 1000000 in
theorem wJoined (w : World) (v : Value) (L : List (List UInt8)) (hv : Rv w 1 v L.length (sl L)) (hlen : L.flatten.length ≤ 1000000000) (hn : L.length ≤ 1000000000) :
    Calls Tryd.prog 22 #[v] w fun e w' => e = .returned (.string ⟨L.flatten.toArray⟩) ∧ Below w.heap.size w w' := by
  obtain ⟨ad, cap, rfl⟩ := Rv.form hv
  have hI0 : Lib.IsBuilder (laysRep_ren.t 72) (laysRep_ren.t 5) w.heap.size w.heap.size [] (w.alloc (.cells #[.pointer none, .slice none 0 0] 68)) := by
    refine .inl ⟨Nat.le_refl _, .slice none 0 0, World.alloc_heap_new _ _, ?_, by simp [Value.ownBlock]⟩
    exact ⟨rfl, .inl ⟨rfl, rfl⟩⟩
  have hb0 : Below w.heap.size w (w.alloc (.cells #[.pointer none, .slice none 0 0] 68)) := bel_alloc (Below.refl _ _) _
  replace hI0 := Lib.hid hI0
  replace hb0 := Lib.hid hb0
  replace hv := Lib.hid hv
  go_enter Tryd.func22, Tryd.ntmps22
  go_wp2
  go_loopw [8] (fun p wr => ∃ k : Nat, p = .int .i64 (k : Int) ∧ k ≤ L.length ∧ Lib.IsBuilder (laysRep_ren.t 72) (laysRep_ren.t 5) w.heap.size w.heap.size (Lib.byteCells (L.take k).flatten) wr ∧ Below w.heap.size w wr) (fun p wr => L.length - (intOf p).toNat)
  case atStart => exact ⟨0, rfl, Nat.zero_le _, hI0.out, hb0.out⟩
  case round =>
    obtain ⟨k, rfl, hk, hI, hb⟩ := hrel
    by_cases hlt : k < L.length
    · have t2 : ((k : Int) < (L.length : Int)) = True := eq_true (by omega)
      have i1 : (0 : Int) ≤ (k : Int) := by omega
      have i2 : (k : Int) < (L.length : Int) := by omega
      have wi : IntKind.i64.wrap ((k : Int) + 1) = ((k + 1 : Nat) : Int) := by rw [IntKind.wrap_i64]; omega
      obtain ⟨a, rfl, z0⟩ := hv.out.cellAt k _ (sl_at L k hlt)
      have z1 := (hb.cell (World.block_lt_of_cell? w _ z0)).trans z0
      have h1 := flatten_take_le L (k + 1)
      have h2 := flatten_take L k hlt
      have hW := Any.Builder_WriteString laysWrS exRep w.heap.size w.heap.size _ ⟨L[k].toArray⟩ wr hI (by rw [Lib.byteCells_length, str_size]; rw [h2, List.length_append] at h1; omega) hb.size
      have e2 : Lib.byteCells (L.take k).flatten ++ Lib.strCells ⟨L[k].toArray⟩ = Lib.byteCells (L.take (k + 1)).flatten := by
        rw [h2, show Lib.strCells ⟨L[k].toArray⟩ = Lib.byteCells L[k] from rfl]; simp [Lib.byteCells]
      rw [e2] at hW
      generalize L[k] = x at *
      replace hW := Lib.hid hW
      replace hlt := Lib.hid hlt
      replace hb := Lib.hid hb
      clear z0 h1 h2 e2 hI hk
      go_wp2_with (go_at_call 34; refine hW.out.mono ?_; rintro e w2 ⟨rfl, hI2, hb2⟩; replace hI2 := Lib.hid hI2; replace hb2 := Lib.hid hb2)
      go_roundw
      case rel => exact ⟨k + 1, rfl, hlt.out, .inr hI2.out, hb.out.trans hb2.out⟩
      case measure => have := hlt.out; simp [intOf]; omega
    · have hke : k = L.length := by omega
      subst hke
      have t2 : ((L.length : Int) < (L.length : Int)) = False := eq_false (by omega)
      rw [List.take_length] at hI
      have hS := Lib.hid (Any.Builder_String_any { laysStr with } exStr w.heap.size w.heap.size L.flatten wr hI hb.size)
      replace hb := Lib.hid hb
      clear hI hlt hk
      go_wp2_with (go_at_call 35; refine hS.out.mono ?_; rintro e w2 ⟨rfl, hb2⟩; replace hb2 := Lib.hid hb2)
      go_ret
      exact ⟨rfl, hb.out.trans hb2.out⟩
end YtjkpapkjlmglbaaDoor
end Go.Proofs
