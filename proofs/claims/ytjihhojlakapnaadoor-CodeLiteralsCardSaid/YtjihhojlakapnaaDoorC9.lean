/- 'CodeLiterals'. -/
import Derived.Test.YtjihhojlakapnaaDoorC8
namespace Go.Proofs.YtjihhojlakapnaaDoor
open Go.RowKit Go.Shelf
set_option linter.unusedVariables false
set_option linter.unusedSimpArgs false
attribute [local go_sem] cell_set set_set m_undef
attribute [local irreducible] lyM lyV lookV

set_option maxRecDepth 100000 in
set_option maxHeartbeats 2000000 in
theorem codeLiterals {w : World} (v : Value) (l : List Int) (h : Rv w 1 v l.length (ic l)) (hi : ∀ x ∈ l, isI x) (hlen : l.length ≤ 9223372036854775807) (hPW : Pow10 w) : Calls Tryd.prog 4 #[v] w fun e w' => e = .returned (.bool true) ∧ Below w.heap.size w w' := by
  have h0 : 0 < w.heap.size := pow_pos hPW
  obtain ⟨ad, cap, rfl⟩ := h.form
  have hA := Lib.hid (wAwake w hPW h0)
  by_cases hl : 100 < l.length
  · clear h hPW
    have t1 : ((100 : Int) < (l.length : Int)) = True := by simp; omega
    go_enter Tryd.func4, Tryd.ntmps4
    go_wp2_with (go_at_call 7; refine hA.out.mono ?_; rintro e w1 ⟨rfl, hb1⟩)
    go_ret
    exact ⟨rfl, hb1⟩
  have t1 : ((100 : Int) < (l.length : Int)) = False := by simp; omega
  have hF1 := fun (w9 : World) => wFlat w9 0 (.slice none 0 0) [] (Bs.nil _ _)
  unfold FlatQ at hF1
  have hz := Lits.zero l
  generalize flatL [] = M0 at *
  have hK0 : Keep w (fun _ => False) (PW.and (.rv 1 (.slice ad l.length cap) l.length (ic l))) := Keep.and ⟨hPW, fun k hk => ⟨by have : k = 0 := hk; omega, id⟩⟩ (Keep.rv h)
  have hcell := Lib.hid (fun (w9 : World) (h9 : Rv w9 1 (.slice ad l.length cap) l.length (ic l)) (k : Nat) (hk : k < l.length) => show ∃ a, ad = some a ∧ w9.cell? (a.add k) = some (.int .i64 l[k]) by
    rcases h9.2.2 with ⟨e, h0⟩ | ⟨a, c, e, hq⟩
    · omega
    · cases e; exact ⟨a, rfl, hq k _ (ic_at l k hk)⟩)
  replace hF1 := Lib.hid hF1
  replace hK0 := Lib.hid hK0
  replace hz := Lib.hid hz
  replace hi := Lib.hid hi
  have hl' : l.length ≤ 100 := by omega
  clear hl hPW h hlen
  go_enter Tryd.func4, Tryd.ntmps4
  go_wp2_with (first
    | (go_at_call 7; refine hA.out.mono ?_; rintro e w1 ⟨rfl, hb1⟩; have hK1 := Lib.hid (hK0.out.turn (Turn.of_below hb1 _)); replace hb1 := Lib.hid hb1)
    | (go_at_call 8; refine (hF1.out _).mono ?_; rintro e w2 ⟨mb, O2, rfl, hP2, hb2⟩; have hT := Uno.make hb1.out hK1.out hP2 hb2; clear hP2 hb2))
  clear hF1 hK0 hK1 hb1 hA
  go_loopw [25] (fun p wr => ∃ (k : Nat) (M : List UInt8), p = .int .i64 (k : Int) ∧ k ≤ l.length ∧ Lits M l k ∧ Uno w wr mb M (PW.and (.rv 1 (.slice ad l.length cap) l.length (ic l)))) (fun p wr => l.length - (intOf p).toNat)
  case atStart => exact ⟨0, M0, rfl, by omega, hz.out, hT⟩
  case round =>
  clear hT
  obtain ⟨k, M, rfl, hk, hL, hT⟩ := hrel
  by_cases hlt : k < l.length
  · have t2 : ((k : Int) < (l.length : Int)) = True := eq_true (by omega)
    have i1 : (0 : Int) ≤ (k : Int) := by omega
    have i2 : (k : Int) < (l.length : Int) := by omega
    have wi : IntKind.i64.wrap ((k : Int) + 1) = ((k + 1 : Nat) : Int) := by rw [IntKind.wrap_i64]; omega
    obtain ⟨a, hea, z0⟩ := hcell.out _ hT.fact.2 k hlt
    subst hea
    have hx := List.getElem?_eq_getElem hlt
    have hxi := hi.out _ (List.getElem_mem hlt)
    generalize l[k] = x at *
    obtain ⟨hv, hL2⟩ := hL.step (by omega) hx hxi
    have hLt := fun (w9 : World) (h : Uno w w9 mb M (PW.and (.rv 1 (.slice (some a) l.length cap) l.length (ic l)))) => Uno.literal h x hxi
    rw [hv] at hLt
    generalize lyM M (cellsB [16, x]) = M1 at *
    replace hLt := Lib.hid hLt
    replace hL2 := Lib.hid hL2
    replace hlt := Lib.hid hlt
    clear hv hL hx hxi hk
    go_wp2_with (go_at_call 12; refine (hLt.out _ hT).mono ?_; rintro e w3 ⟨rfl, hT2⟩; clear hT; have hT := hT2; clear hT2)
    go_roundw
    case rel => exact ⟨k + 1, M1, rfl, hlt.out, hL2.out, hT⟩
    case measure => have := hlt.out; simp [intOf]; omega
  · have hkl : k = l.length := by omega
    subst hkl
    have t2 : ((l.length : Int) < (l.length : Int)) = False := eq_false (by omega)
    have hlk := Lib.hid (fun (j : Nat) (x : Int) (hj : j < l.length) (hx : l[j]? = some x) => look_lit hL hl' hj hx)
    have hle := Lib.hid (look_litEnd hL)
    clear hlt hk hL
    go_wp2
    go_loopw [6, 36] (fun q p wr => ∃ (k : Nat), p = .int .i64 (k : Int) ∧ q = .int .i64 (1536 + 16 * (k : Int)) ∧ k ≤ l.length ∧ Uno w wr mb M (PW.and (.rv 1 (.slice ad l.length cap) l.length (ic l)))) (fun q p wr => l.length - (intOf p).toNat)
    case atStart => exact ⟨0, rfl, rfl, by omega, hT⟩
    case round =>
    clear hT
    obtain ⟨k, rfl, rfl, hk, hT⟩ := hrel
    obtain ⟨at_, hat⟩ : ∃ at_, at_ = 1536 + 16 * (k : Int) := ⟨_, rfl⟩
    by_cases hlt : k < l.length
    · have t2 : ((k : Int) < (l.length : Int)) = True := eq_true (by omega)
      have i1 : (0 : Int) ≤ (k : Int) := by omega
      have i2 : (k : Int) < (l.length : Int) := by omega
      have wi : IntKind.i64.wrap ((k : Int) + 1) = ((k + 1 : Nat) : Int) := by rw [IntKind.wrap_i64]; omega
      obtain ⟨a, hea, z0⟩ := hcell.out _ hT.fact.2 k hlt
      subst hea
      have hx := List.getElem?_eq_getElem hlt
      have hxi := hi.out _ (List.getElem_mem hlt)
      generalize l[k] = x at *
      have hlv := hlk.out k x hlt hx
      rw [← hat] at hlv ⊢
      have hai : isI at_ := by unfold isI; omega
      have hLk := fun (w9 : World) (h : Uno w w9 mb M (PW.and (.rv 1 (.slice (some a) l.length cap) l.length (ic l)))) => h.look at_ hai
      rw [hlv] at hLk
      unfold lookE at hLk
      dsimp only at hLk
      have hs := itoaS_small x hxi
      have hadd := add_str litB (itoaS x) (by decide) (by omega)
      unfold litB at hadd hLk
      generalize (⟨#[40, 108, 105, 116, 41, 32]⟩ : ByteArray) ++ itoaS x = s at *
      obtain ⟨a16, ha16⟩ : ∃ a16, a16 = at_ + 16 := ⟨_, rfl⟩
      have w16 : IntKind.i64.wrap (at_ + 16) = a16 := by rw [ha16]; exact wrap_id (by omega)
      rw [← ha16] at hLk
      have hfm := Lib.hid (fun (w9 : World) (h9 : Pow10 w9) => fmtS x hxi w9 h9)
      replace hLk := Lib.hid hLk
      have h16 := Lib.hid (show a16 = 1536 + 16 * ((k + 1 : Nat) : Int) by omega)
      replace hlt := Lib.hid hlt
      clear hlv hx hxi hk hat ha16 hs hai
      go_wp2_with (first
        | (go_at_call 10; refine (hLk.out _ hT).mono ?_; rintro e w3 ⟨rfl, hT2⟩; clear hT; have hT := hT2; clear hT2)
        | (go_at_call 13; refine (hT.still (hfm.out _ hT.fact.1)).mono ?_; rintro e w4 ⟨rfl, hT2⟩; clear hT; have hT := hT2; clear hT2))
      go_roundw
      case rel => exact ⟨k + 1, rfl, by rw [h16.out], hlt.out, hT⟩
      case measure => have := hlt.out; simp [intOf]; omega
    · have hkl : k = l.length := by omega
      subst hkl
      have t2 : ((l.length : Int) < (l.length : Int)) = False := eq_false (by omega)
      have hlv := hle.out
      rw [← hat] at hlv ⊢
      have hai : isI at_ := by unfold isI; omega
      have hLk := fun (w9 : World) (h : Uno w w9 mb M (PW.and (.rv 1 (.slice ad l.length cap) l.length (ic l)))) => h.look at_ hai
      rw [hlv] at hLk
      unfold lookE at hLk
      dsimp only at hLk
      replace hLk := Lib.hid hLk
      clear hlv hk hlt hat
      go_wp2_with (go_at_call 10; refine (hLk.out _ hT).mono ?_; rintro e w3 ⟨rfl, hT2⟩; clear hT; have hT := hT2; clear hT2)
      go_ret
      exact ⟨rfl, hT.bel⟩
end Go.Proofs.YtjihhojlakapnaaDoor
