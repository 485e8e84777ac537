/- A range over the lines of a text: the iterator, the loop's law. -/
import Derived.Test.YtjkpapkjlmglbaaDoorU6
namespace Go.Proofs.YtjkpapkjlmglbaaDoor
open Go.RowKit Go.Shelf
set_option linter.unusedVariables false
set_option linter.unusedSimpArgs false
attribute [local go_sem] Oper.semAt_some cell_set set_set m_undef

theorem wLinesF (w : World) (s : ByteArray) : Calls Tryd.prog 18 #[.string s] w fun e w' => e = .returned (.func (.func 29) #[] #[.pointer (some ⟨w.heap.size, 0, none⟩)]) ∧ w' = w.alloc (.cells #[.string s] 9) := by
  have hmf : ∀ (fn : Fn) (first cap : Array Value) (w : World), (Instr.makeFunc fn first cap).run Tryd.prog w = .ok (.func fn first cap) w := fun _ _ _ _ => rfl
  go_enter Tryd.func18, Tryd.ntmps18
  go_wp2
  go_ret
  exact ⟨rfl, rfl⟩
/-- What a loop over lines keeps: o: the loop's record, k lines done, s: what is left. -/
structure LoopI (bx N : Nat) (J : Obj → Nat → List UInt8 → World → Prop) : Prop where
  recd : ∀ {o k s W}, J o k s W → W.heap[N + 1]? = some o
  cell : ∀ {o k s W}, J o k s W → Blk W bx #[.string ⟨s.toArray⟩] 9
  putRec : ∀ {o k s W}, J o k s W → ∀ o', J o' k s (W.putObj (N + 1) o')
  putBx : ∀ {o k s W}, J o k s W → ∀ s' : List UInt8, J o k s' (W.setCell ⟨bx, 0, none⟩ (.string ⟨s'.toArray⟩))
  drew : ∀ {o k s W}, J o k s W → ∀ n, J o k s (W.drewN n)
  max : ∀ {o k s W}, J o k s W → MaxB W
def strLenC : Option Value → Nat
  | some (.string s) => s.size
  | _ => 0
theorem join_drop (ls : List (List UInt8)) (k : Nat) (h : k < ls.length) : joinL (ls.drop k) = ls[k] ++ 10 :: joinL (ls.drop (k + 1)) := by
  rw [List.drop_eq_getElem_cons h, joinL_cons]
theorem join_drop_le (ls : List (List UInt8)) : ∀ k, (joinL (ls.drop k)).length ≤ (joinL ls).length
  | 0 => by simp
  | k + 1 => by
    have := join_drop_le ls k
    by_cases h : k < ls.length
    · rw [join_drop ls k h] at this; simp at this; omega
    · rw [List.drop_eq_nil_of_le (by omega)]; simp [joinL]
theorem toList_cons (S : ByteArray) (a b : List UInt8) (h : S = ⟨(a ++ 10 :: b).toArray⟩) : (S.toList == []) = false := by
  subst h
  rw [ByteArray.toList_eq]
  simp
set_option maxRecDepth 100000 in
set_option maxHeartbeats 1000000 in
theorem lines_in (n : Nat) (hn : 1 ≤ n) {bx N : Nat} {J : Obj → Nat → List UInt8 → World → Prop} (I : LoopI bx N J) (ls : List (List UInt8)) (hl : ∀ l ∈ ls, (10 : UInt8) ∉ l) (hlen : (joinL ls).length ≤ 1000000) (o : Obj) (l : Nat) (W : World) (h0 : J o 0 (joinL ls) W)
    (hY : ∀ (k : Nat) (x s : List UInt8) (W1 : World), ls[k]? = some x → J o k s W1 → YieldAt Fence.wide (n - 1) Tryd.prog l #[.string ⟨x.toArray⟩] W1 fun e W' => e = .returned (.bool true) ∧ J o (k + 1) s W') :
    CallsIn Fence.wide n Tryd.prog 29 #[.func (.yield l) #[] #[], .pointer (some ⟨bx, 0, none⟩)] W fun e W' => (∃ v, e = .returned v) ∧ J o ls.length [] W' := by
  have hY' := Lib.hid hY
  have h0' := Lib.hid h0
  replace hl := Lib.hid hl
  clear hY h0
  refine callsIn_of_wp Tryd.func29 rfl trivial ?_ rfl
  simp only [Tryd.ntmps29, List.size_toArray, List.length_cons, List.length_nil, Nat.reduceAdd, Nat.reduceSub, Array.replicate_succ, Array.replicate_zero, List.push_toArray, List.append_toArray, List.nil_append, List.cons_append]
  gi_wp2
  gi_loopw [3] (fun p wr => ∃ k : Nat, k ≤ ls.length ∧ J o k (joinL (ls.drop k)) wr) (fun p wr => strLenC (wr.cell? ⟨bx, 0, none⟩))
  case atStart => exact ⟨0, Nat.zero_le _, h0'.out⟩
  case round =>
    obtain ⟨k, hk, hJ⟩ := hrel
    have cb : wr.cell? ⟨bx, 0, none⟩ = some (.string ⟨(joinL (ls.drop k)).toArray⟩) := (I.cell hJ).cell 0
    by_cases hlt : k < ls.length
    · have hx : ls[k]? = some ls[k] := List.getElem?_eq_getElem hlt
      have hno := hl.out ls[k] (List.getElem_mem hlt)
      have hle := join_drop_le ls k
      have hd := join_drop ls k hlt
      have hC := fun (w9 : World) (h9 : MaxB w9) => cut_ (joinL (ls.drop k)) w9 h9 (by omega)
      rw [hd] at cb hC hJ
      rw [cut_at _ _ hno] at hC
      have hYk := fun (s : List UInt8) (W1 : World) => hY'.out k _ s W1 hx
      have tz := toList_cons _ ls[k] (joinL (ls.drop (k + 1))) rfl
      generalize ls[k] = x at *
      obtain ⟨r, hr⟩ : ∃ r, r = joinL (ls.drop (k + 1)) := ⟨_, rfl⟩
      rw [← hr] at cb hC hJ tz
      have hszl : strLenC (some (.string ⟨(x ++ 10 :: r).toArray⟩)) = x.length + r.length + 1 := by
        show (⟨(x ++ 10 :: r).toArray⟩ : ByteArray).size = _
        rw [str_size]; simp; omega
      obtain ⟨S, hS⟩ : ∃ S : ByteArray, S = ⟨(x ++ 10 :: r).toArray⟩ := ⟨_, rfl⟩
      rw [← hS] at cb hC tz hszl
      have hmx := I.max hJ
      have hJn := fun n => I.drew hJ n
      have hJ' := Lib.hid hJ
      replace hC := Lib.hid hC
      replace hYk := Lib.hid hYk
      replace hJn := Lib.hid hJn
      replace hszl := Lib.hid hszl
      replace hr := Lib.hid hr
      have hlt' := Lib.hid hlt
      clear hJ hd hno hx hk hlt hS hle
      gi_wp2
      refine ⟨trivial, ?_⟩
      gi_at_call 24
      refine (callsIn_wide.2 (hC.out _ hmx)).mono ?_
      rintro e w2 ⟨rfl, n2, rfl⟩
      obtain ⟨fn, tmps, assign, body, hy, hRo⟩ := hYk.out _ _ (hJn.out n2)
      gi_wp2
      refine hRo.mono ?_
      rintro e W3 ⟨rfl, hJ3⟩
      have hb3 := I.cell hJ3
      have c3 : W3.cell? ⟨bx, 0, none⟩ = _ := hb3.cell 0
      have f3 := hb3.frozen 0
      have hJ4 := I.putBx hJ3 r
      have c4 : (W3.setCell ⟨bx, 0, none⟩ (.string ⟨r.toArray⟩)).cell? ⟨bx, 0, none⟩ = some (.string ⟨r.toArray⟩) := (I.cell hJ4).cell 0
      have hJ4' := Lib.hid hJ4
      replace c4 := Lib.hid c4
      replace cb := Lib.hid cb
      clear hy hRo hJ3 hJ4 hb3 tz
      gi_wp2
      go_roundw
      case rel => exact ⟨k + 1, hlt'.out, by rw [← hr.out]; exact hJ4'.out⟩
      case measure =>
        rw [c4.out, cb.out, hszl.out]
        show (⟨r.toArray⟩ : ByteArray).size < _
        rw [str_size]; omega
    · have hke : k = ls.length := by omega
      subst hke
      rw [List.drop_length] at cb hJ
      have e0 : joinL [] = [] := rfl
      rw [e0] at cb hJ
      have tz : ((⟨#[]⟩ : ByteArray).toList == []) = true := by rw [ByteArray.toList_eq]; simp
      have hJ' := Lib.hid hJ
      clear hJ hk hlt
      gi_wp2
      go_end0
      exact ⟨⟨_, rfl⟩, hJ'.out⟩
end Go.Proofs.YtjkpapkjlmglbaaDoor
