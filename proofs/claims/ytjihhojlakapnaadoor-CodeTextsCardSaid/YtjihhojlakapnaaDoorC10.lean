/- 'CodeTexts'. -/
import Derived.Test.YtjihhojlakapnaaDoorC8
namespace Go.Proofs.YtjihhojlakapnaaDoor
open Go.RowKit Go.Shelf
set_option linter.unusedVariables false
set_option linter.unusedSimpArgs false
attribute [local go_sem] cell_set set_set m_undef

theorem load_lay {M : List UInt8} (hM : M.length = 8192) (a : Int) (nm pad : List UInt8) (h0 : 0 ≤ a) (h1 : a + nm.length ≤ 8192) : loadL (layL M a (nm ++ pad)) a (nm.length : Int) = nm := by
  apply List.ext_getElem
  · rw [loadL_len]; omega
  · intro i h2 h3
    rw [loadL_get, memAt_layL hM, if_pos (by rw [List.length_append]; omega), List.getD_eq_getElem?_getD, List.getElem?_append_left (by omega), List.getElem?_eq_getElem (by omega)]
    simp only [Option.getD_some]
    congr 1
    omega
theorem textB_len (nm : List UInt8) : (textB nm).length = 8 + nm.length + padT nm := by unfold textB; rw [List.length_append, List.length_append, bytesB_len, List.length_replicate]
theorem align_pad (nm : List UInt8) (h : nm.length ≤ 3000) : alignZ (nm.length : Int) = (nm.length : Int) + (padT nm : Int) ∧ padT nm ≤ 7 ∧ (nm.length + padT nm) % 8 = 0 := by
  unfold alignZ padT
  rw [IntKind.wrap_i64]
  split <;> omega
theorem setM_bytes (M : List UInt8) (a n : Int) : layL M a (bytesB n 8) = setM M a n := by rw [bytesB_cell]; rfl
theorem textB_is (nm : List UInt8) : textB nm = bytesB (nm.length : Int) 8 ++ (nm ++ List.replicate (padT nm) 0) := by unfold textB; rw [List.append_assoc]
attribute [local irreducible] layL setM getM loadL textB bytesB cellsB padT alignZ hereL
theorem padT_le (nm : List UInt8) : padT nm ≤ 7 := by delta padT; omega
structure TextIs (M : List UInt8) (nm : List UInt8) (n : Int) : Prop where
  size : getM M 1536 = (nm.length : Int)
  text : loadL M 1544 (nm.length : Int) = nm
  cell : getM M (1544 + alignZ (nm.length : Int)) = n
  here : getM M 0 = 1544 + alignZ (nm.length : Int) + 8
theorem texts_law {M0 : List UInt8} (h0 : M0.length = 8192) (hh : hereL M0 = 1536) (nm : List UInt8) (hl : nm.length ≤ 3000) (n : Int) (hn : isI n) :
    lyV M0 (textB nm) = 0 ∧ lyV (lyM M0 (textB nm)) (cellsB [n]) = 0 ∧ TextIs (lyM (lyM M0 (textB nm)) (cellsB [n])) nm n := by
  obtain ⟨ha, hp, hp8⟩ := align_pad nm hl
  have tl := textB_len nm
  have hv : lyV M0 (textB nm) = 0 := by
    unfold lyV
    rw [hh, tl, if_neg (by omega), if_neg (by omega)]
  obtain ⟨M1, hM1⟩ : ∃ M1, M1 = lyM M0 (textB nm) := ⟨_, rfl⟩
  rw [← hM1]
  unfold lyM at hM1
  rw [if_pos hv, hh, tl] at hM1
  obtain ⟨A, hA⟩ : ∃ A, A = layL M0 1536 (textB nm) := ⟨_, rfl⟩
  have lA : A.length = 8192 := by rw [hA, layL_len]; exact h0
  obtain ⟨p, hpp⟩ : ∃ p : Int, p = 1544 + alignZ (nm.length : Int) := ⟨_, rfl⟩
  have hq : (1536 : Int) + ((8 + nm.length + padT nm : Nat) : Int) = p := by omega
  rw [← hA, hq] at hM1
  have l1 : M1.length = 8192 := by rw [hM1, setM_len]; exact lA
  have g1 : getM M1 0 = p := by rw [hM1]; exact getM_setM lA 0 p (by unfold isI; omega) (by omega)
  have h1 : hereL M1 = p := here_at g1 (by omega) (by omega)
  have hv2 : lyV M1 (cellsB [n]) = 0 := by
    unfold lyV
    rw [cellsB_len, h1, if_neg (by omega), if_neg (by simp; omega)]
  refine ⟨hv, hv2, ?_⟩
  unfold lyM
  rw [if_pos hv2, h1, lay_cell1 l1, cellsB_len]
  obtain ⟨p8, hp9⟩ : ∃ p8, p8 = p + ((8 * ([n] : List Int).length : Nat) : Int) := ⟨_, rfl⟩
  have hp82 : p8 = p + 8 := by rw [hp9]; simp
  rw [← hp9]
  obtain ⟨C, hC⟩ : ∃ C, C = setM M1 p n := ⟨_, rfl⟩
  have lC : C.length = 8192 := by rw [hC, setM_len]; exact l1
  rw [← hC]
  have e1 := textB_is nm
  have hA2 : A = layL (setM M0 1536 (nm.length : Int)) 1544 (nm ++ List.replicate (padT nm) 0) := by
    rw [hA, e1, lay_append h0, setM_bytes, bytesB_len]
    rfl
  have lB : (setM M0 1536 (nm.length : Int)).length = 8192 := by rw [setM_len]; exact h0
  refine ⟨?_, ?_, ?_, ?_⟩
  · rw [getM_other lC _ _ _ (by omega), hC, getM_other l1 _ _ _ (by omega), hM1, getM_other lA _ _ _ (by omega), hA2, getM_lay lB _ _ _ (by omega)]
    exact getM_setM h0 _ _ (by unfold isI; omega) (by omega)
  · rw [loadL_other lC _ _ _ _ (by omega), hC, loadL_other l1 _ _ _ _ (by omega), hM1, loadL_other lA _ _ _ _ (by omega), hA2]
    exact load_lay lB _ _ _ (by omega) (by omega)
  · rw [← hpp, getM_other lC _ _ _ (by omega), hC]
    exact getM_setM l1 _ _ hn (by omega)
  · rw [← hpp, getM_setM lC _ _ (by unfold isI; omega) (by omega)]
    exact hp82
theorem Uno.text {W w : World} {mb : Nat} {M : List UInt8} {K : Kp} (h : Uno W w mb M K) (nm : List UInt8) (hn : nm.length ≤ 100000) :
    Calls Tryd.prog 14 #[.pointer (some ⟨mb, 0, none⟩), .string ⟨nm.toArray⟩] w fun e w' => e = .returned (.int .i64 (lyV M (textB nm))) ∧ Uno W w' mb (lyM M (textB nm)) K :=
  (wText w (some ⟨mb, 0, none⟩) nm hn (Q := fun t w' => t = lyV M (textB nm) ∧ Uno W w' mb (lyM M (textB nm)) K) (fun w1 u hb hu => h.layU hb hu (by rw [textB_len]; have := padT_le nm; omega))).mono fun e w' ⟨t, he, ht, hT⟩ => ⟨by rw [he, ht], hT⟩
theorem Uno.comma {W w : World} {mb : Nat} {M : List UInt8} {K : Kp} (h : Uno W w mb M K) {v : Value} {l : List Int} (hv : Rv w 1 v l.length (ic l)) (hl : ∀ x ∈ l, isI x) (hlen : l.length ≤ 1000) :
    Calls Tryd.prog 15 #[.pointer (some ⟨mb, 0, none⟩), v] w fun e w' => e = .returned (.int .i64 (lyV M (cellsB l))) ∧ Uno W w' mb (lyM M (cellsB l)) K :=
  (wComma w (some ⟨mb, 0, none⟩) v l hv hl hlen (Q := fun t w' => t = lyV M (cellsB l) ∧ Uno W w' mb (lyM M (cellsB l)) K) (fun w1 u hb hu => h.layU hb hu (by rw [cellsB_len]; omega))).mono fun e w' ⟨t, he, ht, hT⟩ => ⟨by rw [he, ht], hT⟩
theorem Uno.comma1 {W w : World} {mb : Nat} {M : List UInt8} {K : Kp} (h : Uno W w mb M K) (n : Int) (hn : isI n) :
    Calls Tryd.prog 15 #[.pointer (some ⟨mb, 0, none⟩), .slice (some ⟨w.heap.size, 0, none⟩) 1 1] (w.alloc (.cells #[.int .i64 n] 2)) fun e w' => e = .returned (.int .i64 (lyV M (cellsB [n]))) ∧ Uno W w' mb (lyM M (cellsB [n])) K :=
  Uno.comma (h.alloc _) (l := [n]) (Rv.lit w [n]) (fun x hx => by rw [List.mem_singleton.1 hx]; exact hn) (by simp)
attribute [local irreducible] lyM lyV lookV
set_option maxRecDepth 100000 in
set_option maxHeartbeats 2000000 in
theorem codeTexts (s : ByteArray) (n : Int) (_ : s.size ≤ maxLen) (hn : isI n) (w : World) (hPW : Pow10 w) : Calls Tryd.prog 5 #[.string s, .int .i64 n] w fun e w' => e = .returned (.bool true) ∧ Below w.heap.size w w' := by
  have h0 : 0 < w.heap.size := pow_pos hPW
  have hA := Lib.hid (wAwake w hPW h0)
  by_cases hl : 3000 < s.size
  · clear hPW
    have t1 : ((3000 : Int) < (s.size : Int)) = True := by simp; omega
    go_enter Tryd.func5, Tryd.ntmps5
    go_wp2_with (go_at_call 7; refine hA.out.mono ?_; rintro e w1 ⟨rfl, hb1⟩)
    go_ret
    exact ⟨rfl, hb1⟩
  have t1 : ((3000 : Int) < (s.size : Int)) = False := by simp; omega
  obtain ⟨nm, hs⟩ : ∃ nm : List UInt8, s = ⟨nm.toArray⟩ := ⟨s.data.toList, by simp⟩
  have hsz : s.size = nm.length := by rw [hs]; simp [ByteArray.size]
  have hnl : nm.length ≤ 3000 := by omega
  have hF1 := fun (w9 : World) => wFlat w9 0 (.slice none 0 0) [] (Bs.nil _ _)
  unfold FlatQ at hF1
  obtain ⟨v1, v2, hTx⟩ := texts_law (flatL_len []) cz_here nm hnl n hn
  generalize flatL [] = M0 at *
  have ha := (align_pad nm hnl)
  have hTt := fun (w9 : World) (mb : Nat) (h : Uno w w9 mb M0 .emp) => h.text nm (by omega)
  rw [v1, ← hs] at hTt
  have hCm := fun (w9 : World) (mb : Nat) (h : Uno w w9 mb (lyM M0 (textB nm)) .emp) => h.comma1 n hn
  rw [v2] at hCm
  generalize lyM M0 (textB nm) = M1 at *
  generalize lyM M1 (cellsB [n]) = M2 at *
  obtain ⟨q1, q2, q3, q4⟩ := hTx
  have hAl := Lib.hid (fun (w9 : World) => calls_still (rAlign w9 (nm.length : Int) (by unfold isI; omega)))
  obtain ⟨al, hal⟩ : ∃ al, al = alignZ (nm.length : Int) := ⟨_, rfl⟩
  rw [← hal] at hAl q3 q4 ha
  obtain ⟨p, hp⟩ : ∃ p : Int, p = 1544 + al := ⟨_, rfl⟩
  rw [← hp] at q3 q4
  have wp : IntKind.i64.wrap (1544 + al) = p := by rw [hp]; exact wrap_id (by omega)
  have wp8 : IntKind.i64.wrap (p + 8) = p + 8 := wrap_id (by omega)
  have hG1 := fun (w9 : World) (B mb : Nat) (O : Nat → Prop) (h : MemP w9 B mb M2 O) (hb : B ≤ w9.heap.size) => mGet h hb 1536 (by unfold isI; omega)
  have hG2 := fun (w9 : World) (B mb : Nat) (O : Nat → Prop) (h : MemP w9 B mb M2 O) (hb : B ≤ w9.heap.size) => mGet h hb p (by unfold isI; omega)
  have hG3 := fun (w9 : World) (B mb : Nat) (O : Nat → Prop) (h : MemP w9 B mb M2 O) (hb : B ≤ w9.heap.size) => mGet h hb 0 (by unfold isI; omega)
  have hLd := fun (w9 : World) (B mb : Nat) (O : Nat → Prop) (h : MemP w9 B mb M2 O) (hb : B ≤ w9.heap.size) => mLoad h hb 1544 (nm.length : Int) (by unfold isI; omega)
  rw [q1] at hG1
  rw [q3] at hG2
  rw [q4] at hG3
  rw [q2] at hLd
  have hb2 : ∀ (w9 : World) (v : Value), Bs w9 0 v nm → (convert 22 9 v).run Tryd.prog w9 = .ok (.string s) w9 := fun w9 v h => by rw [hs]; exact bs_str h
  rw [← hsz] at hG1 hAl hLd
  have hK0 : Keep w (fun _ => False) .emp := Keep.emp _ _
  have hpne : p ≠ 1536 ∧ p ≠ 0 := by omega
  replace hF1 := Lib.hid hF1
  replace hTt := Lib.hid hTt
  replace hCm := Lib.hid hCm
  replace hG1 := Lib.hid hG1
  replace hG2 := Lib.hid hG2
  replace hG3 := Lib.hid hG3
  replace hLd := Lib.hid hLd
  replace hb2 := Lib.hid hb2
  clear v1 v2 q1 q2 q3 q4 ha hs hsz hnl hl hp hal hn hPW
  go_enter Tryd.func5, Tryd.ntmps5
  go_wp2_with (first
    | (go_at_call 7; refine hA.out.mono ?_; rintro e w1 ⟨rfl, hb1⟩; replace hb1 := Lib.hid hb1)
    | (go_at_call 8; refine (hF1.out _).mono ?_; rintro e w2 ⟨mb, O2, rfl, hP2, hbb2⟩; have hT := Uno.make hb1.out (Keep.emp _ _) hP2 hbb2; clear hP2 hbb2)
    | (go_at_call 14; refine (hTt.out _ _ hT).mono ?_; rintro e w3 ⟨rfl, hT2⟩; clear hT; have hT := hT2; clear hT2)
    | (go_at_call 15; refine (hCm.out _ _ hT).mono ?_; rintro e w4 ⟨rfl, hT2⟩; clear hT; have hT := hT2; clear hT2)
    | (go_at_call 16; refine (hT.still (hAl.out _)).mono ?_; rintro e w5 ⟨rfl, hT2⟩; clear hT; have hT := hT2; clear hT2)
    | (go_at_call 18; refine (hT.load (fun B O h hb => hLd.out _ _ _ _ h hb)).mono ?_; rintro e w6 ⟨v6, rfl, hT2⟩; clear hT; have hT := hT2; clear hT2; have hst := hb2.out _ _ hT.fact.2; replace hT := hT.weak)
    | (go_at_call_of 17 (1536 : Int); refine (hT.mem (fun B O h hb => hG1.out _ _ _ _ h hb)).mono ?_; rintro e w7 ⟨rfl, hT2⟩; clear hT; have hT := hT2; clear hT2)
    | (go_at_call_of 17 p; refine (hT.mem (fun B O h hb => hG2.out _ _ _ _ h hb)).mono ?_; rintro e w7 ⟨rfl, hT2⟩; clear hT; have hT := hT2; clear hT2)
    | (go_at_call_of 17 (0 : Int); refine (hT.mem (fun B O h hb => hG3.out _ _ _ _ h hb)).mono ?_; rintro e w7 ⟨rfl, hT2⟩; clear hT; have hT := hT2; clear hT2))
  go_ret
  exact ⟨rfl, hT.bel⟩
end Go.Proofs.YtjihhojlakapnaaDoor
