/- The reference's Show. -/
import Derived.Test.YtjkpapkjlmglbaaDoorU5
import Derived.Lib.ItoaLen
import Derived.Lib.LaidTab
namespace Go.Proofs.YtjkpapkjlmglbaaDoor
open Go.RowKit
set_option linter.unusedVariables false
set_option linter.unusedSimpArgs false
attribute [local go_sem] cell_set set_set m_undef

theorem gTab : Tryd.prog.globalNamed "internal/strconv.uint64pow10" = some 1 := by kernel_rfl
abbrev Pow10 (W : World) : Prop := Lib.TabIs Tryd.prog W "internal/strconv.uint64pow10" .u64 Lib.pow10Tab
/-- What is laid of the library's variables. -/
def GL (w : World) : Prop := MaxB w ∧ Pow10 w
theorem GL.lt {w : World} (h : GL w) : 1 < w.heap.size := by
  have hc := h.2
  simp only [Pow10, Lib.TabIs, World.var?, gTab, Option.bind_some] at hc
  cases e : w.heap[1]? with
  | none => rw [e] at hc; cases hc
  | some o => exact (Array.getElem?_eq_some_iff.1 e).1
theorem GL.same {w1 w2 : World} (hp : GL w1) (h : ∀ k, k = 0 ∨ k = 1 → w2.heap[k]? = w1.heap[k]?) : GL w2 := by
  refine ⟨?_, ?_⟩
  · obtain ⟨m, hm⟩ := hp.1
    exact ⟨m, (World.cell?_of_block (h 0 (.inl rfl))).trans hm⟩
  · have hc := hp.2
    simp only [Pow10, Lib.TabIs, World.var?, gTab, Option.bind_some] at hc ⊢
    rw [h 1 (.inr rfl)]
    exact hc
theorem GL.below {W w : World} (h : GL W) (hb : Below W.heap.size W w) : GL w := h.same fun k hk => hb.block k (by have := h.lt; omega)
/-- The listed variables, kept. -/
def PW : Kp := ⟨fun k => k = 0 ∨ k = 1, GL, fun w1 w2 h hs hp => hp.same fun k hk => h k hk (by have := GL.lt hp; omega)⟩
/-- A line as it is shown. -/
def itemL (i : Nat) (l : List UInt8) : List UInt8 := Lib.itoa ((i : Int) + 1) ++ [58, 32] ++ l ++ [10]
def showN (ls : List (List UInt8)) (k : Nat) : List UInt8 := ((List.range k).map fun i => itemL i (ls.getD i [])).flatten
def showL (ls : List (List UInt8)) : List UInt8 := showN ls ls.length
theorem showN_succ (ls : List (List UInt8)) (k : Nat) (hk : k < ls.length) : showN ls (k + 1) = showN ls k ++ itemL k ls[k] := by
  unfold showN
  rw [List.range_succ, List.map_append, List.flatten_append]
  simp [List.getD, List.getElem?_eq_getElem hk]
theorem linesF_le : ∀ (s cur : List UInt8), ∀ l ∈ linesF cur s, l.length ≤ cur.length + s.length
  | [], cur, l, h => by simp [linesF] at h
  | c :: s, cur, l, h => by
    rw [linesF] at h
    split at h
    · rcases List.mem_cons.1 h with rfl | h
      · omega
      · have := linesF_le s [] l h; simp at this ⊢; (try omega)
    · have := linesF_le s (cur ++ [c]) l h; simp at this ⊢; (try omega)
theorem linesL_le {t l : List UInt8} (h : l ∈ linesL t) : l.length ≤ t.length := by
  have := linesF_le t [] l h
  simpa using this
theorem itemL_len (i : Nat) (l : List UInt8) (hi : i ≤ 1000000) : (itemL i l).length ≤ 24 + l.length := by
  have := Lib.itoa_length_le ((i : Int) + 1) (by omega) (by omega)
  unfold itemL
  simp
  omega
attribute [local irreducible] textV linesL showN
set_option maxRecDepth 100000 in
set_option maxHeartbeats 2000000 in
theorem rShow {w : World} {B rb : Nat} {M : List UInt8} {R : Nat → Prop} (h : RefP w B rb M R) (hB : B ≤ w.heap.size) (hK : Keep w R PW) :
    Calls Tryd.prog 13 #[.pointer (some ⟨rb, 0, none⟩)] w fun e w' => RefQ w w' B rb M R (.string ⟨(showL (linesL (textV M))).toArray⟩) e := by
  have hS := Onr.startK h hB hK
  have hLn := fun (w9 : World) (O : Nat → Prop) (h : RefP w9 B rb M O) (hb : B ≤ w9.heap.size) => rLines h hb
  have hlen := textV_len M
  have hle := fun (l : List UInt8) (hl : l ∈ linesL (textV M)) => Nat.le_trans (linesL_le hl) hlen
  have hn := linesL_len (textV M)
  unfold showL
  generalize linesL (textV M) = ls at *
  have hn5 : ls.length ≤ 510 := by omega
  have h00 : showN ls 0 = [] := by delta showN; rfl
  have hsn := Lib.hid (fun (k : Nat) (hk : k < ls.length) => showN_succ ls k hk)
  replace hle := Lib.hid hle
  replace hLn := Lib.hid hLn
  replace h00 := Lib.hid h00
  clear h hB hK hlen hn
  go_enter Tryd.func13, Tryd.ntmps13
  go_wp2_with (first
    | (go_at_call 11; refine (hS.refX (fun O h hb => hLn.out _ _ h hb)).mono ?_; rintro e w2 ⟨v, rfl, hS2⟩; obtain ⟨av, cv, rfl, hcv⟩ := (show Vs _ 0 1 _ _ _ from hS2.fact.2.1).form; clear hcv))
  replace hS2 := hS2.keep (L := PW.and (.vs 1 (.slice av ls.length cv) ls.length (sl ls))) fun O h => h.left.and h.right.left
  clear hS
  go_loopw [3, 9] (fun u i wr => ∃ k : Nat, i = .int .i64 (k : Int) ∧ u = .string ⟨(showN ls k).toArray⟩ ∧ k ≤ ls.length ∧ (showN ls k).length ≤ 600 * k ∧ Onr w wr B rb M R (PW.and (.vs 1 (.slice av ls.length cv) ls.length (sl ls)))) (fun u i _ => (ls.length - (intOf i).toNat))
  case atStart => exact ⟨0, rfl, by rw [h00.out], Nat.zero_le _, by rw [h00.out]; simp, hS2⟩
  case round =>
    clear hS2
    obtain ⟨k, rfl, rfl, hk, hkl, hS⟩ := hrel
    by_cases hlt : k < ls.length
    · have t2 : ((k : Int) < (ls.length : Int)) = True := eq_true (by omega)
      have i1 : (0 : Int) ≤ (k : Int) := by omega
      have i2 : (k : Int) < (ls.length : Int) := by omega
      have wk : IntKind.i64.wrap ((k : Int) + 1) = ((k + 1 : Nat) : Int) := by rw [IntKind.wrap_i64]; omega
      obtain ⟨bu, ou, cu2, he⟩ := (show Vs _ 0 1 _ _ _ from hS.fact.2).some_of (by omega)
      cases he
      have z0 := (show Vs _ 0 1 _ _ _ from hS.fact.2).cell k _ (sl_at ls k hlt)
      have hl := hle.out ls[k] (List.getElem_mem hlt)
      have hit := itemL_len k ls[k] (by omega)
      have hnx := hsn.out k hlt
      have hil := Lib.itoa_length_le ((k : Int) + 1) (by omega) (by omega)
      unfold itemL at hnx hit
      have wk2 : ((k + 1 : Nat) : Int) = (k : Int) + 1 := by omega
      have hI := fun (w9 : World) (h9 : GL w9) => itoa_ ((k : Int) + 1) (by unfold isI; omega) w9 h9.2
      rw [← wk2] at hI hnx hit hil
      obtain ⟨q, hq⟩ : ∃ q : Int, q = ((k + 1 : Nat) : Int) := ⟨_, rfl⟩
      rw [← hq] at hI hnx hit hil wk
      generalize Lib.itoa q = it at *
      generalize ls[k] = x at *
      generalize showN ls k = acc at *
      obtain ⟨x1, hx1⟩ : ∃ x1, x1 = it ++ [58, 32] := ⟨_, rfl⟩
      obtain ⟨x2, hx2⟩ : ∃ x2, x2 = x1 ++ x := ⟨_, rfl⟩
      obtain ⟨x3, hx3⟩ : ∃ x3, x3 = x2 ++ [10] := ⟨_, rfl⟩
      have a1 : ((⟨it.toArray⟩ : ByteArray) ++ (⟨#[58, 32]⟩ : ByteArray)) = ⟨x1.toArray⟩ := by rw [hx1]; exact str_app it [58, 32]
      have a2 : ((⟨x1.toArray⟩ : ByteArray) ++ (⟨x.toArray⟩ : ByteArray)) = ⟨x2.toArray⟩ := by rw [hx2]; exact str_app x1 x
      have a3 : ((⟨x2.toArray⟩ : ByteArray) ++ (⟨#[10]⟩ : ByteArray)) = ⟨x3.toArray⟩ := by rw [hx3]; exact str_app x2 [10]
      have hx3' : x3 = it ++ [58, 32] ++ x ++ [10] := by rw [hx3, hx2, hx1]
      rw [← hx3'] at hnx hit
      have a4 : ((⟨acc.toArray⟩ : ByteArray) ++ (⟨x3.toArray⟩ : ByteArray)) = ⟨(showN ls (k + 1)).toArray⟩ := by rw [hnx]; exact str_app acc x3
      have e1 : x1.length = it.length + 2 := by rw [hx1]; simp
      have e2 : x2.length = x1.length + x.length := by rw [hx2]; simp
      have e3 : x3.length = x2.length + 1 := by rw [hx3]; simp
      have s1 : (9223372036854775807 < it.length + 2) = False := eq_false (by omega)
      have s2 : (9223372036854775807 < x1.length + x.length) = False := eq_false (by omega)
      have s3 : (9223372036854775807 < x2.length + 1) = False := eq_false (by omega)
      have s4 : (9223372036854775807 < acc.length + x3.length) = False := eq_false (by omega)
      have hlen2 := Lib.hid (show (showN ls (k + 1)).length ≤ 600 * (k + 1) by rw [hnx, List.length_append]; omega)
      obtain ⟨acc2, ha2⟩ : ∃ acc2, acc2 = showN ls (k + 1) := ⟨_, rfl⟩
      rw [← ha2] at hlen2 a4
      replace ha2 := Lib.hid ha2
      replace hI := Lib.hid hI
      replace hq := Lib.hid hq
      have hlt' := Lib.hid hlt
      clear hlt hk hx1 hx2 hx3 hx3' hnx hit hl hil hkl e1 e2 e3 wk2
      go_wp2_with (go_at_call 21; refine (hS.still (hI.out _ hS.fact.1)).mono ?_; rintro e w3 ⟨rfl, hS2⟩; clear hS; have hS := hS2; clear hS2)
      go_roundw
      case rel => exact ⟨k + 1, by rw [hq.out], by rw [ha2.out], hlt'.out, by rw [← ha2.out]; exact hlen2.out, hS⟩
      case measure => have := hlt'.out; have := hq.out; simp [intOf]; omega
    · have hke : k = ls.length := by omega
      subst hke
      have t2 : ((ls.length : Int) < (ls.length : Int)) = False := eq_false (by omega)
      clear hlt hk hkl
      go_wp2
      go_ret
      exact hS.refQ _
end Go.Proofs.YtjkpapkjlmglbaaDoor
