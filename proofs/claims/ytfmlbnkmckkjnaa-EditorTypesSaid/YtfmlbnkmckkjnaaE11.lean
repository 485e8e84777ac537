/- 'typed', 'Keys'. -/
import Derived.Test.YtfmlbnkmckkjnaaE10
namespace Go.Proofs.Ytfmlbnkmckkjnaa
open Go.RowKit
set_option linter.unusedVariables false
set_option linter.unusedSimpArgs false
attribute [local go_sem] cell_set set_set m_undef

/-- One byte more is typed. -/
def typedS (b : List UInt8) (c : UInt8) : List UInt8 := if (32 ≤ c.toNat ∧ c.toNat ≤ 126) ∧ b.length < 200 then b ++ [c] else b
/-- What of a text can be typed. -/
def typedL (s : List UInt8) : List UInt8 := s.foldl typedS []
theorem typedL_step (s : List UInt8) (j : Nat) (h : j < s.length) : typedL (s.take (j + 1)) = typedS (typedL (s.take j)) s[j] := by
  unfold typedL
  rw [List.take_succ_eq_append_getElem h, List.foldl_append]
  rfl
theorem typedS_len (b : List UInt8) (c : UInt8) (h : b.length ≤ 200) : (typedS b c).length ≤ 200 := by
  unfold typedS
  split
  · rename_i h1; simp; omega
  · exact h
theorem fold_len (s : List UInt8) : ∀ b : List UInt8, b.length ≤ 200 → (s.foldl typedS b).length ≤ 200 := by
  induction s with
  | nil => intro b h; exact h
  | cons c s ih => intro b h; exact ih _ (typedS_len b c h)
theorem typedL_len (s : List UInt8) : (typedL s).length ≤ 200 := fold_len s [] (by simp)

theorem ba_get (s : List UInt8) (j : Nat) (h : j < (⟨s.toArray⟩ : ByteArray).size) : (⟨s.toArray⟩ : ByteArray)[j]'h = s[j]'(by simpa [ByteArray.size] using h) := rfl
attribute [local go_sem] ba_get
/-- A new slice of one byte. -/
theorem Bs.lit1 (w : World) (c : UInt8) : Bs (w.alloc (.cells #[.int .u8 (c.toNat : Int)] 5)) w.heap.size (.slice (some ⟨w.heap.size, 0, none⟩) 1 1) [c] := by
  refine .inr ⟨w.heap.size, 0, 1, rfl, Nat.le_refl _, by simp, Nat.le_refl _, fun j hj => ?_, fun j hj => ?_⟩
  · have : j = 0 := by simp at hj; omega
    subst this
    obtain ⟨e1, e2, _⟩ := (Blk.new w #[.int .u8 (c.toNat : Int)] 5).one
    exact e1
  · have : j = 0 := by omega
    subst this
    obtain ⟨e1, e2, _⟩ := (Blk.new w #[.int .u8 (c.toNat : Int)] 5).one
    exact ⟨by rw [e1]; rfl, e2⟩
theorem field0 (s : ByteArray) (a : Int) (d : Bool) (w : World) : (Instr.field 23 (.agg #[.string s, .int .i64 a, .bool d]) 0).run Try.prog w = .ok (.string s) w := by kernel_rfl
theorem field1 (s : ByteArray) (a : Int) (d : Bool) (w : World) : (Instr.field 23 (.agg #[.string s, .int .i64 a, .bool d]) 1).run Try.prog w = .ok (.int .i64 a) w := by kernel_rfl
theorem field2 (s : ByteArray) (a : Int) (d : Bool) (w : World) : (Instr.field 23 (.agg #[.string s, .int .i64 a, .bool d]) 2).run Try.prog w = .ok (.bool d) w := by kernel_rfl
attribute [local go_sem] field0 field1 field2

set_option maxHeartbeats 1000000 in
theorem wTyped (w : World) (s : List UInt8) (hs : s.length ≤ 9223372036854775807) :
    Calls Try.prog 22 #[.string ⟨s.toArray⟩] w fun e w' => e = .returned (vw (typedL s) (typedL s).length false) ∧ Below w.heap.size w w' := by
  unfold vw
  go_enter Try.func22, Try.ntmps22
  go_wp2
  go_loopw [3, 7] (fun b i wr => ∃ j : Nat, j ≤ s.length ∧ i = .int .i64 (j : Int) ∧ Bs wr (w.heap.size + 1) b (typedL (s.take j)) ∧ Blk wr w.heap.size #[.string ⟨#[]⟩, .int .i64 0, .bool false] 23 ∧ Below w.heap.size w wr) (fun b i _ => (s.length - (intOf i).toNat))
  case atStart =>
    exact ⟨0, by omega, rfl, Bs.nil _ _, Blk.new _ _ _, by repeat (first | (with_reducible exact Below.refl _ _) | (with_reducible assumption) | (with_reducible apply bel_alloc) | (with_reducible apply bel_drew) | (with_reducible refine bel_set ?_ (by first | exact Nat.le_refl _ | (simp; done) | omega | (simp; omega)) _) | (with_reducible refine bel_trans ?_ (by with_reducible assumption)))⟩
  case round =>
    obtain ⟨j, hj, rfl, hb, hB, hbel⟩ := hrel
    obtain ⟨b0, n0, rfl, hcap⟩ := hb.len
    by_cases hjl : j < s.length
    · obtain ⟨c, hc⟩ : ∃ c, s[j] = c := ⟨_, rfl⟩
      have hstep := typedL_step s j hjl
      have hlen := typedL_len (s.take j)
      rw [hc] at hstep
      generalize typedL (s.take j) = l at *
      have t1 : ((j : Int) < (s.length : Int)) = True := by simp; omega
      have w1 : IntKind.i64.wrap ((j : Int) + 1) = ((j + 1 : Nat) : Int) := by rw [IntKind.wrap_i64]; omega
      replace hb := Lib.hid hb
      replace hB := Lib.hid hB
      replace hbel := Lib.hid hbel
      unfold typedS at hstep
      by_cases hc1 : 32 ≤ c.toNat ∧ c.toNat ≤ 126
      · by_cases hl : l.length < 200
        · rw [if_pos ⟨hc1, hl⟩] at hstep
          replace hstep := Lib.hid hstep
          have t2 : ((l.length : Int) < 200) = True := by simp; omega
          have hnew : Bs (wr.alloc (.cells #[.int .u8 (c.toNat : Int)] 5)) wr.heap.size (.slice (some ⟨wr.heap.size, 0, none⟩) 1 1) [c] := Bs.lit1 wr c
          have hzB := Lib.hid hbel.out.size
          have hlB := Lib.hid hB.out.lt
          obtain ⟨v2, w2, hr, hv2, hg2, ho2⟩ := Bs.append (P := Try.prog) (ty := 39) (hb.out.alloc (.cells #[.int .u8 (c.toNat : Int)] 5)) hnew Try.underlying39 info5 (by simp only [List.length_cons, List.length_nil]; omega) (by have := hlB.out; simp only [World.size_alloc]; omega)
          obtain ⟨v2a, n2, cc2, rfl⟩ := hv2.form
          have hB2 := Lib.hid ((hB.out.alloc (.cells #[.int .u8 (c.toNat : Int)] 5)).kept hg2 (fun e => hb.out.ne (Lb := w.heap.size) (by omega) e.symm))
          have hb2 := Lib.hid ((bel_alloc hbel.out (.cells #[.int .u8 (c.toNat : Int)] 5)).grown hg2 (by have := hzB.out; simp only [World.size_alloc]; omega) (fun k e => hb.out.ge (by omega) e))
          replace hv2 := Lib.hid hv2
          clear hnew hg2 ho2
          go_upto_region 6 with (go_at_call 16; refine (types_yes c.toNat hc1.1 hc1.2 wr).mono ?_; rintro e _ ⟨rfl, rfl⟩)
          go_upto_region 7 with (at_builtin; refine wpList_append_bs rfl _ _ 39 rfl hr rfl rfl ?_)
          go_wp2
          go_roundw
          case rel => exact ⟨j + 1, by omega, rfl, by rw [hstep.out]; exact hv2.out, hB2.out, hb2.out⟩
          case measure => simp [intOf]; omega
        · rw [if_neg (fun h => hl h.2)] at hstep
          replace hstep := Lib.hid hstep
          have t2 : ((l.length : Int) < 200) = False := by simp; omega
          clear hl
          go_wp2_with (go_at_call 16; refine (types_yes c.toNat hc1.1 hc1.2 wr).mono ?_; rintro e _ ⟨rfl, rfl⟩)
          go_roundw
          case rel => exact ⟨j + 1, by omega, rfl, by rw [hstep.out]; exact hb.out, hB.out, hbel.out⟩
          case measure => simp [intOf]; omega
      · rw [if_neg (fun h => hc1 h.1)] at hstep
        replace hstep := Lib.hid hstep
        have hc2 := Lib.hid hc1
        clear hc1
        go_wp2_with (go_at_call 16; refine (types_no c.toNat hc2.out wr).mono ?_; rintro e _ ⟨rfl, rfl⟩)
        go_roundw
        case rel => exact ⟨j + 1, by omega, rfl, by rw [hstep.out]; exact hb.out, hB.out, hbel.out⟩
        case measure => simp [intOf]; omega
    · have hjs : j = s.length := by omega
      subst hjs
      rw [List.take_length] at hb hcap
      have t1 : ((s.length : Int) < (s.length : Int)) = False := by simp
      rw [List.take_length]
      have hstr := hb.str (dst := 9) Try.underlying39 Try.underlying5 Try.underlying9
      obtain ⟨d1, d2, d3, g1, g2, g3, l2⟩ := hB.three
      have hB' := Lib.hid hB
      have hbel' := Lib.hid hbel
      clear hB hbel hb hjl hj
      obtain ⟨l, hl⟩ : ∃ l, typedL s = l := ⟨_, rfl⟩
      rw [hl] at hstr hcap ⊢
      replace hl := Lib.hid hl
      go_wp2
      rw [hl.out]
      refine ret_blk (v := .agg #[.string ⟨l.toArray⟩, .int .i64 (l.length : Int), .bool false]) w.heap.size #[.string ⟨l.toArray⟩, .int .i64 (l.length : Int), .bool false] 23 (by simpa using ((hB'.out.set 0 (.string ⟨l.toArray⟩)).set 1 (.int .i64 (l.length : Int))).set 2 (.bool false)) (fun w' h => by obtain ⟨c1, c2, c3, _⟩ := h.three; simp [results, Try.results22, go_sem, c1, c2, c3]) rfl ⟨rfl, ?_⟩
      have hbel := hbel'.out
      repeat (first | (with_reducible exact Below.refl _ _) | (with_reducible assumption) | (with_reducible apply bel_alloc) | (with_reducible apply bel_drew) | (with_reducible refine bel_set ?_ (by first | exact Nat.le_refl _ | (simp; done) | omega | (simp; omega)) _) | (with_reducible refine bel_trans ?_ (by with_reducible assumption)))
theorem ba_one (l : List UInt8) (c : UInt8) : (({ data := l.toArray } : ByteArray) ++ { data := #[c] }) = { data := (l ++ [c]).toArray } := by
  have := ba_append l [c]
  simpa using this
/-- 'Keys' -/
theorem wKeys (w : World) (s : List UInt8) (hs : s.length ≤ 9223372036854775807) :
    Calls Try.prog 11 #[.string ⟨s.toArray⟩] w fun e w' => e = .returned (.string ⟨(typedL s ++ [13]).toArray⟩) ∧ Below w.heap.size w w' := by
  have hlen := typedL_len s
  obtain ⟨l, hl⟩ : ∃ l, typedL s = l := ⟨_, rfl⟩
  have h22 := wTyped w s hs
  rw [hl] at hlen h22 ⊢
  replace h22 := Lib.hid h22
  unfold vw at h22
  clear hl
  have e1 := ba_one l 13
  go_enter Try.func11, Try.ntmps11
  go_wp2_with (go_at_call 22; refine h22.out.mono ?_; rintro e w1 ⟨rfl, hb1⟩)
  go_ret
  exact ⟨rfl, hb1⟩
end Go.Proofs.Ytfmlbnkmckkjnaa

