/- Lines of a text: plain laws. -/
import Derived.Lib.IndexMore
import Derived.Lib.Replace
import Derived.Lib.Strings
namespace Go.Proofs.YtjkpapkjlmglbaaDoor
open Go.Lib

/-- The lines of a text, each ended by a line feed; behind what was read of the first one. -/
def linesF : List UInt8 → List UInt8 → List (List UInt8)
  | _, [] => []
  | cur, c :: l => if c = 10 then cur :: linesF [] l else linesF (cur ++ [c]) l
def linesL (s : List UInt8) : List (List UInt8) := linesF [] s
/-- Lines, each ended by a line feed. -/
def joinL (ls : List (List UInt8)) : List UInt8 := ls.flatMap fun l => l ++ [10]
/-- A text of whole lines. -/
def Ended (s : List UInt8) : Prop := ∃ ls : List (List UInt8), s = joinL ls ∧ ∀ l ∈ ls, (10 : UInt8) ∉ l
theorem linesF_at : ∀ (a cur b : List UInt8), (10 : UInt8) ∉ a → linesF cur (a ++ 10 :: b) = (cur ++ a) :: linesF [] b
  | [], cur, b, _ => by rw [List.nil_append, linesF, if_pos rfl, List.append_nil]
  | c :: a, cur, b, h => by
    rw [List.cons_append, linesF, if_neg (fun e => h (by rw [e]; exact List.mem_cons_self ..)), linesF_at a (cur ++ [c]) b (fun e => h (List.mem_cons_of_mem _ e)), List.append_assoc]; rfl
theorem joinL_cons (a : List UInt8) (ls : List (List UInt8)) : joinL (a :: ls) = a ++ 10 :: joinL ls := by simp [joinL]
theorem joinL_app (a b : List (List UInt8)) : joinL (a ++ b) = joinL a ++ joinL b := by simp [joinL]
theorem linesL_join : ∀ (ls : List (List UInt8)), (∀ l ∈ ls, (10 : UInt8) ∉ l) → linesL (joinL ls) = ls
  | [], _ => rfl
  | a :: ls, h => by
    unfold linesL
    rw [joinL_cons, linesF_at a [] _ (h a (List.mem_cons_self ..)), List.nil_append]
    exact congrArg _ (linesL_join ls fun l hl => h l (List.mem_cons_of_mem _ hl))
theorem index_at : ∀ (a b : List UInt8), (10 : UInt8) ∉ a → index (a ++ 10 :: b) [10] = (a.length : Int)
  | [], b, _ => by unfold index; simp
  | c :: a, b, h => by
    have hc : (10 : UInt8) ≠ c := fun e => h (by rw [e]; exact List.mem_cons_self ..)
    have ih := index_at a b (fun e => h (List.mem_cons_of_mem _ e))
    rw [List.cons_append]
    unfold index
    rw [if_neg (by simp [List.isPrefixOf, hc]), ih, if_neg (by simp), List.length_cons]
    omega
theorem index_no : ∀ (a : List UInt8), (10 : UInt8) ∉ a → index a [10] = -1
  | [], _ => rfl
  | c :: a, h => by
    have hc : (10 : UInt8) ≠ c := fun e => h (by rw [e]; exact List.mem_cons_self ..)
    have ih := index_no a (fun e => h (List.mem_cons_of_mem _ e))
    unfold index
    rw [if_neg (by simp [List.isPrefixOf, hc]), ih]
    rfl
theorem cut_at (a b : List UInt8) (h : (10 : UInt8) ∉ a) : cut (a ++ 10 :: b) [10] = (a, b, true) := by
  unfold cut
  rw [index_at a b h, if_pos (by omega)]
  simp
theorem cut_no (a : List UInt8) (h : (10 : UInt8) ∉ a) : cut a [10] = (a, [], false) := by
  unfold cut
  rw [index_no a h, if_neg (by omega)]
theorem split_at {s : List UInt8} (h : (10 : UInt8) ∈ s) : ∃ a b, s = a ++ 10 :: b ∧ (10 : UInt8) ∉ a := by
  induction s with
  | nil => cases h
  | cons c l ih =>
    by_cases hc : c = 10
    · exact ⟨[], l, by rw [hc]; rfl, by simp⟩
    · obtain ⟨a, b, e, ha⟩ := ih ((List.mem_cons.1 h).resolve_left fun e => hc e.symm)
      exact ⟨c :: a, b, by rw [e]; rfl, by simp [ha, Ne.symm hc]⟩
theorem count_step (fuel : Nat) (a b : List UInt8) (h : (10 : UInt8) ∉ a) : countFrom [10] (fuel + 1) (a ++ 10 :: b) = 1 + countFrom [10] fuel b := by
  rw [countFrom, index_at a b h, if_neg (by simp)]
  simp
theorem replace_filter : ∀ (fuel : Nat) (s : List UInt8), s.length < fuel → replaceK [10] [] (countFrom [10] fuel s) s = s.filter (fun c => decide (c ≠ 10))
  | 0, s, h => by omega
  | fuel + 1, s, h => by
    by_cases hm : (10 : UInt8) ∈ s
    · obtain ⟨a, b, rfl, ha⟩ := split_at hm
      rw [count_step fuel a b ha, Nat.add_comm 1, replaceK_hit [10] [] _ _ a.length (index_at a b ha), List.filter_append, List.filter_cons_of_neg (by simp)]
      have e : (a ++ 10 :: b).drop (a.length + [(10 : UInt8)].length) = b := by simp
      rw [e, replace_filter fuel b (by simp at h; omega)]
      rw [List.take_left, List.append_nil, (List.filter_eq_self.2 (fun x hx => by simp; exact fun e => ha (e ▸ hx)) : a.filter (fun c => decide (c ≠ 10)) = a)]
    · rw [countFrom, index_no s hm, if_pos (by simp), replaceK, List.filter_eq_self.2 (fun x hx => by simp; exact fun e => hm (e ▸ hx))]
theorem replaceAll_filter (s : List UInt8) : replaceAll s [10] [] = s.filter (fun c => decide (c ≠ 10)) := by
  unfold replaceAll replace
  rw [if_neg (by decide)]
  unfold replaceNum
  rw [if_pos (.inl (by omega))]
  exact replace_filter _ s (by omega)
theorem Ended.nil : Ended [] := ⟨[], rfl, fun _ h => by cases h⟩
theorem Ended.cases {s : List UInt8} (h : Ended s) : s = [] ∨ ∃ a b, s = a ++ 10 :: b ∧ (10 : UInt8) ∉ a ∧ Ended b := by
  obtain ⟨ls, rfl, hl⟩ := h
  cases ls with
  | nil => exact .inl rfl
  | cons a ls => exact .inr ⟨a, joinL ls, joinL_cons a ls, hl a (List.mem_cons_self ..), ls, rfl, fun l h => hl l (List.mem_cons_of_mem _ h)⟩
/-- A text that ends with a line feed is one of whole lines. -/
theorem ended_snoc : ∀ (n : Nat) (s : List UInt8), s.length ≤ n → Ended (s ++ [10])
  | n, s, hn => by
    by_cases hm : (10 : UInt8) ∈ s
    · obtain ⟨a, b, rfl, ha⟩ := split_at hm
      cases n with
      | zero => simp at hn
      | succ n =>
        obtain ⟨ls, e, hl⟩ := ended_snoc n b (by simp at hn; omega)
        exact ⟨a :: ls, by rw [joinL_cons, ← e]; simp, fun l h => by
          rcases List.mem_cons.1 h with rfl | h
          · exact ha
          · exact hl l h⟩
    · exact ⟨[s], by simp [joinL], fun l h => by rw [List.mem_singleton.1 h]; exact hm⟩
theorem suffix_iff (s : List UInt8) : hasSuffix s [10] = true ↔ ∃ a, s = a ++ [10] := by
  unfold hasSuffix
  rw [List.isSuffixOf_iff_suffix]
  exact ⟨fun ⟨a, e⟩ => ⟨a, e.symm⟩, fun ⟨a, e⟩ => ⟨a, e.symm⟩⟩
theorem ended_of_suffix {s : List UInt8} (h : hasSuffix s [10] = true) : Ended s := by
  obtain ⟨a, rfl⟩ := (suffix_iff s).1 h
  exact ended_snoc a.length a (Nat.le_refl _)
/-- Lines are taken from the front until the text has room. -/
def fitF : Nat → List UInt8 → List UInt8
  | 0, s => s
  | n + 1, s => if 510 < s.length then fitF n (cut s [10]).2.1 else s
def fitL (s : List UInt8) : List UInt8 := fitF s.length s
theorem cut_rest_lt (s : List UInt8) (h : 0 < s.length) : (cut s [10]).2.1.length < s.length := by
  by_cases hm : (10 : UInt8) ∈ s
  · obtain ⟨a, b, rfl, ha⟩ := split_at hm
    rw [cut_at a b ha]; simp; omega
  · rw [cut_no s hm]; exact h
theorem fitF_enough : ∀ (n m : Nat) (s : List UInt8), s.length ≤ n → s.length ≤ m → fitF n s = fitF m s
  | 0, 0, s, _, _ => rfl
  | 0, m + 1, s, h, _ => by rw [fitF, fitF, if_neg (by omega)]
  | n + 1, 0, s, _, h => by rw [fitF, fitF, if_neg (by omega)]
  | n + 1, m + 1, s, hn, hm => by
    rw [fitF, fitF]
    by_cases c : 510 < s.length
    · rw [if_pos c, if_pos c]
      have := cut_rest_lt s (by omega)
      exact fitF_enough n m _ (by omega) (by omega)
    · rw [if_neg c, if_neg c]
theorem fitL_step (s : List UInt8) (h : 510 < s.length) : fitL s = fitL (cut s [10]).2.1 := by
  have := cut_rest_lt s (by omega)
  unfold fitL
  obtain ⟨n, hn⟩ : ∃ n, s.length = n + 1 := ⟨s.length - 1, by omega⟩
  rw [hn, fitF, if_pos h]
  exact fitF_enough _ _ _ (by omega) (by omega)
theorem fitL_done (s : List UInt8) (h : ¬ 510 < s.length) : fitL s = s := by
  unfold fitL
  cases hl : s.length with
  | zero => rfl
  | succ n => rw [fitF, if_neg h]
theorem fitL_len (s : List UInt8) : (fitL s).length ≤ 510 := by
  have h : ∀ (n : Nat) (s : List UInt8), s.length ≤ n → (fitL s).length ≤ 510 := by
    intro n
    induction n with
    | zero => intro s hs; rw [fitL_done s (by omega)]; omega
    | succ n ih =>
      intro s hs
      by_cases c : 510 < s.length
      · rw [fitL_step s c]
        have := cut_rest_lt s (by omega)
        exact ih _ (by omega)
      · rw [fitL_done s c]; omega
  exact h _ s (Nat.le_refl _)
theorem fitL_lines (o : List UInt8) (ho : o.length ≤ 200) : ∀ (ls : List (List UInt8)), (∀ l ∈ ls, (10 : UInt8) ∉ l) → ∃ j, j ≤ ls.length ∧ fitL (joinL (ls ++ [o])) = joinL (ls.drop j ++ [o])
  | [], _ => ⟨0, Nat.le_refl _, fitL_done _ (by simp [joinL]; omega)⟩
  | a :: ls, h => by
    by_cases c : 510 < (joinL (a :: ls ++ [o])).length
    · obtain ⟨j, hj, e⟩ := fitL_lines o ho ls fun l hl => h l (List.mem_cons_of_mem _ hl)
      refine ⟨j + 1, by simp; exact hj, ?_⟩
      rw [fitL_step _ c, List.cons_append, joinL_cons, cut_at a _ (h a (List.mem_cons_self ..)), List.drop_succ_cons]
      exact e
    · exact ⟨0, Nat.zero_le _, fitL_done _ c⟩
/-- What is added of a line. -/
def ownL (l : List UInt8) : List UInt8 := (l.filter (fun c => decide (c ≠ 10))).take 200
theorem ownL_len (l : List UInt8) : (ownL l).length ≤ 200 := by unfold ownL; rw [List.length_take]; omega
theorem ownL_no (l : List UInt8) : (10 : UInt8) ∉ ownL l := fun h => by
  have := (List.mem_filter.1 (List.mem_of_mem_take h)).2
  simp at this
theorem ownL_self {l : List UInt8} (h : (10 : UInt8) ∉ l) (hl : l.length ≤ 200) : ownL l = l := by
  unfold ownL
  rw [List.filter_eq_self.2 (fun x hx => by simp; exact fun e => h (e ▸ hx)), List.take_of_length_le hl]
/-- The text behind a line more. -/
def addL (t l : List UInt8) : List UInt8 := fitL (t ++ ownL l ++ [10])
theorem addL_lines {t : List UInt8} (h : Ended t) (l : List UInt8) : ∃ j, j ≤ (linesL t).length ∧ addL t l = joinL ((linesL t).drop j ++ [ownL l]) ∧ linesL (addL t l) = (linesL t).drop j ++ [ownL l] := by
  obtain ⟨ls, rfl, hl⟩ := h
  obtain ⟨j, hj, e⟩ := fitL_lines (ownL l) (ownL_len l) ls hl
  have e2 : addL (joinL ls) l = joinL (ls.drop j ++ [ownL l]) := by
    unfold addL
    rw [← e, joinL_app, List.append_assoc]
    congr 1
    simp [joinL]
  refine ⟨j, by rw [linesL_join ls hl]; exact hj, by rw [linesL_join ls hl]; exact e2, ?_⟩
  rw [linesL_join ls hl, e2, linesL_join]
  intro x hx
  rcases List.mem_append.1 hx with hx | hx
  · exact hl x (List.mem_of_mem_drop hx)
  · rw [List.mem_singleton.1 hx]; exact ownL_no l
theorem addL_len (t l : List UInt8) : (addL t l).length ≤ 510 := fitL_len _
theorem addL_end {t : List UInt8} (h : Ended t) (l : List UInt8) : ∃ a, addL t l = a ++ [10] := by
  obtain ⟨j, _, e, _⟩ := addL_lines h l
  exact ⟨joinL ((linesL t).drop j) ++ ownL l, by rw [e, joinL_app, List.append_assoc]; simp [joinL]⟩
theorem join_lines {t : List UInt8} (h : Ended t) : joinL (linesL t) = t := by
  obtain ⟨ls, rfl, hl⟩ := h
  rw [linesL_join ls hl]
/-- How many bytes lines take. -/
def sizeL (ls : List (List UInt8)) : Nat := (joinL ls).length
theorem joinL_len_take (ls : List (List UInt8)) (k : Nat) (h : k < ls.length) : (joinL (ls.take (k + 1))).length = (joinL (ls.take k)).length + ls[k].length + 1 := by
  rw [List.take_succ_eq_append_getElem h, joinL_app]
  simp [joinL]
  omega
end Go.Proofs.YtjkpapkjlmglbaaDoor
