/- 'lay', 'Comma', 'Literal', 'Text'. -/
import Derived.Test.YtjihhojlakapnaaDoorC1
import Derived.Test.YtjihhojlakapnaaDoorVS
import Derived.Test.YtjihhojlakapnaaDoorPB4
import Derived.Test.YtjihhojlakapnaaDoorNM
namespace Go.Proofs.YtjihhojlakapnaaDoor
open Go.RowKit
set_option linter.unusedVariables false
set_option linter.unusedSimpArgs false
attribute [local go_sem] cell_set set_set m_undef

theorem One.memK {W w : World} {B mb : Nat} {M : List UInt8} {O0 : Nat → Prop} {K : Kp} (h : One W w B mb M O0 K) {f : Nat} {args : Array Value} {M' : List UInt8} {v : Value} (c : ∀ O, MemP w B mb M O → B ≤ w.heap.size → Keep w O K → Calls Tryd.prog f args w fun e w' => MemQ w w' B mb M' O v e) :
    Calls Tryd.prog f args w fun e w' => e = .returned v ∧ One W w' B mb M' O0 K := by
  obtain ⟨O, h1, h2, h3, h4⟩ := h
  refine (c O h1 (Nat.le_trans h4 h2.size) h3).mono fun e w' ⟨he, O', h5, h6⟩ => ⟨he, O', h5, h2.trans h6, h3.turn h6, h4⟩
/-- The throw of laying bytes from Here on; the memory behind it. -/
def lyV (M bs : List UInt8) : Int := if hereL M % 8 ≠ 0 then -23 else if 5632 - hereL M < (bs.length : Int) then -8 else 0
def lyM (M bs : List UInt8) : List UInt8 := if lyV M bs = 0 then setM (layL M (hereL M) bs) 0 (hereL M + (bs.length : Int)) else M
theorem hereL_in (M : List UInt8) : 1536 ≤ hereL M ∧ hereL M ≤ 5632 := by unfold hereL; split <;> omega
set_option maxHeartbeats 1000000 in
theorem kLay {w : World} {B mb : Nat} {M : List UInt8} {O : Nat → Prop} (h : MemP w B mb M O) (hB : B ≤ w.heap.size) {v : Value} {bs : List UInt8} (hv : Bs w 0 v bs) (hbs : bs.length ≤ 1000000) (hvO : ∀ k, v.ownBlock = some k → ¬ O k) :
    Calls Tryd.prog 38 #[.pointer (some ⟨mb, 0, none⟩), v, .bool true] w fun e w' => MemQ w w' B mb (lyM M bs) O (.int .i64 (lyV M bs)) e := by
  have hS := One.startK h hB (Keep.bs hv hvO)
  obtain ⟨a, cap, rfl, hcap⟩ := hv.len
  have hHr := Lib.hid (fun (w9 : World) (O : Nat → Prop) (h : MemP w9 B mb M O) (hb : B ≤ w9.heap.size) => mHere h hb)
  have hin := hereL_in M
  have h7 := and7 (hereL M) (by unfold isI; omega)
  have hLay := Lib.hid (fun (w9 : World) (O : Nat → Prop) (h : MemP w9 B mb M O) (hb : B ≤ w9.heap.size) (hk : Keep w9 O (.bs (.slice a bs.length cap) bs)) => mLay h hb (hereL M) (by unfold isI; omega) (show Bs w9 0 _ _ from hk.1) hbs (fun k hk2 => (hk.2 k hk2).2))
  obtain ⟨M2, hM2⟩ : ∃ M2, M2 = layL M (hereL M) bs := ⟨_, rfl⟩
  rw [← hM2] at hLay
  unfold lyM
  rw [← hM2]
  obtain ⟨V, hV⟩ : ∃ V, V = lyV M bs := ⟨_, rfl⟩
  rw [← hV]
  unfold lyV at hV
  generalize hereL M = here at *
  clear h hv hcap hM2 hvO
  replace hS := Lib.hid hS
  replace hHr := Lib.hid hHr
  have hbs' := hbs
  obtain ⟨h2, hh2⟩ : ∃ h2, h2 = here + (bs.length : Int) := ⟨_, rfl⟩
  have wx : IntKind.i64.wrap (here + (bs.length : Int)) = h2 := by clear hV; rw [IntKind.wrap_i64]; omega
  have wy : IntKind.i64.wrap (5632 - here) = 5632 - here := by clear hV; rw [IntKind.wrap_i64]; omega
  have hi2 : isI h2 := by clear hV; unfold isI; omega
  rw [← hh2]
  clear hbs hbs' hh2
  replace hi2 := Lib.hid hi2
  replace hS := hS.out
  replace hHr := hHr.out
  by_cases h8 : here % 8 = 0
  · have t8 : (here % 8 != 0) = false := by simp; exact h8
    rw [if_neg (fun e => e h8)] at hV
    by_cases hf : 5632 - here < (bs.length : Int)
    · have tf : (5632 - here < (bs.length : Int)) = True := eq_true hf
      rw [if_pos hf] at hV
      subst hV
      rw [if_neg (by decide)]
      clear hf h8 hin
      go_enter Tryd.func38, Tryd.ntmps38
      go_wp2_with (go_at_call 26; refine (hS.mem (fun O h hb => hHr.out _ O h hb)).mono ?_; rintro e w2 ⟨rfl, hS2⟩; clear hS; have hS := hS2; clear hS2)
      go_ret
      exact (hS.memQ _)
    · have tf : (5632 - here < (bs.length : Int)) = False := eq_false hf
      rw [if_neg hf] at hV
      subst hV
      rw [if_pos rfl]
      clear hf h8 hin
      go_enter Tryd.func38, Tryd.ntmps38
      go_upto_region 9 with (first
        | (go_at_call 26; refine (hS.mem (fun O h hb => hHr.out _ O h hb)).mono ?_; rintro e w2 ⟨rfl, hS2⟩; clear hS; have hS := hS2; clear hS2)
        | (go_at_call 53; refine (hS.memK (fun O h hb hk => hLay.out _ O h hb hk)).mono ?_; rintro e w5 ⟨rfl, hS2⟩; clear hS; have hS := hS2; clear hS2))
      go_wp2_with (go_at_call 42; refine (hS.mem (fun O h hb => mSet h hb 0 h2 (by unfold isI; decide))).mono ?_; rintro e w6 ⟨rfl, hS2⟩; clear hS; have hS := hS2; clear hS2)
      go_ret
      exact (hS.memQ _)
  · have t8 : (here % 8 != 0) = true := by simp; exact h8
    rw [if_pos h8] at hV
    subst hV
    rw [if_neg (by decide)]
    clear h8 hin
    go_enter Tryd.func38, Tryd.ntmps38
    go_wp2_with (go_at_call 26; refine (hS.mem (fun O h hb => hHr.out _ O h hb)).mono ?_; rintro e w2 ⟨rfl, hS2⟩; clear hS; have hS := hS2; clear hS2)
    go_ret
    exact (hS.memQ _)
theorem nHere (w : World) : Calls Tryd.prog 26 #[.pointer none] w fun e w' => e = .returned (.int .i64 1536) ∧ Below w.heap.size w w' := by
  have hG := Lib.hid (nGet w 0)
  go_enter Tryd.func26, Tryd.ntmps26
  go_wp2_with (go_at_call 17; refine hG.out.mono ?_; rintro e w2 ⟨rfl, hb⟩)
  go_ret
  exact ⟨rfl, hb⟩
theorem nLayC (w : World) (p : Option Addr) (n c : Nat) : Calls Tryd.prog 38 #[.pointer none, .slice p n c, .bool true] w fun e w' => e = .returned (.int .i64 (-9)) ∧ Below w.heap.size w w' := by
  have hH := Lib.hid (nHere w)
  go_enter Tryd.func38, Tryd.ntmps38
  go_wp2_with (go_at_call 26; refine hH.out.mono ?_; rintro e w2 ⟨rfl, hb⟩)
  go_ret
  exact ⟨rfl, hb⟩
theorem nLayF (w : World) (p : Option Addr) (n c : Nat) : Calls Tryd.prog 38 #[.pointer none, .slice p n c, .bool false] w fun e w' => e = .returned (.int .i64 (-9)) ∧ Below w.heap.size w w' := by
  have hH := Lib.hid (nHere w)
  go_enter Tryd.func38, Tryd.ntmps38
  go_wp2_with (go_at_call 26; refine hH.out.mono ?_; rintro e w2 ⟨rfl, hb⟩)
  go_ret
  exact ⟨rfl, hb⟩
/-- The bytes of cells. -/
def cellsB (l : List Int) : List UInt8 := l.flatMap fun n => bytesB n 8
theorem cellsB_len (l : List Int) : (cellsB l).length = 8 * l.length := by
  induction l with
  | nil => rfl
  | cons x l ih => simp [cellsB, bytesB_len] at ih ⊢; omega
theorem cellsB_next (l : List Int) (k : Nat) (x : Int) (hx : l[k]? = some x) : cellsB (l.take (k + 1)) = cellsB (l.take k) ++ bytesB x 8 := by
  rw [List.take_add_one, hx]
  simp [cellsB]
set_option maxRecDepth 100000 in
set_option maxHeartbeats 400000 in
theorem wComma (w : World) (p : Option Addr) (v : Value) (l : List Int) (hv : Rv w 1 v l.length (ic l)) (hl : ∀ x ∈ l, isI x) (hlen : l.length ≤ 1000) {Q : Int → World → Prop}
    (hlay : ∀ w1 u, Below w.heap.size w w1 → Bs w1 w.heap.size u (cellsB l) → Calls Tryd.prog 38 #[.pointer p, u, .bool true] w1 fun e w' => ∃ t, e = .returned (.int .i64 t) ∧ Q t w') :
    Calls Tryd.prog 15 #[.pointer p, v] w fun e w' => ∃ t, e = .returned (.int .i64 t) ∧ Q t w' := by
  obtain ⟨ad, cap, rfl⟩ := hv.form
  replace hlay := Lib.hid hlay
  replace hv := Lib.hid hv
  replace hl := Lib.hid hl
  go_enter Tryd.func15, Tryd.ntmps15
  go_wp2
  go_loopw [5, 10] (fun o i wr => ∃ k : Nat, i = .int .i64 (k : Int) ∧ k ≤ l.length ∧ Bs wr w.heap.size o (cellsB (l.take k)) ∧ Below w.heap.size w wr) (fun o i wr => l.length - (intOf i).toNat)
  case atStart => exact ⟨0, rfl, by omega, Bs.nil _ _, Below.refl _ _⟩
  case round =>
    obtain ⟨k, rfl, hk, hb, hbel⟩ := hrel
    obtain ⟨a5, cc5, rfl, hcap5⟩ := hb.len
    obtain ⟨N, hN⟩ : ∃ N, (cellsB (l.take k)).length = N := ⟨_, rfl⟩
    have hN8 := Lib.hid (show N = 8 * k by rw [← hN, cellsB_len, List.length_take, Nat.min_eq_left hk])
    rw [hN] at hb ⊢
    replace hN := Lib.hid hN
    by_cases hlt : k < l.length
    · have t1 : ((k : Int) < (l.length : Int)) = True := eq_true (by omega)
      have i1 : (0 : Int) ≤ (k : Int) := by omega
      have i2 : (k : Int) < (l.length : Int) := by omega
      have wk : IntKind.i64.wrap ((k : Int) + 1) = ((k + 1 : Nat) : Int) := by rw [IntKind.wrap_i64]; omega
      have hx : l[k]? = some l[k] := List.getElem?_eq_getElem hlt
      have hxi := hl.out _ (List.getElem_mem hlt)
      have hnx := cellsB_next l k _ hx
      obtain ⟨a, hea, z0⟩ : ∃ a, ad = some a ∧ w.cell? (a.add k) = some (.int .i64 l[k]) := by
        rcases hv.out.2.2 with ⟨e, h0⟩ | ⟨a, c, e, h⟩
        · omega
        · cases e; exact ⟨a, rfl, h k _ (ic_at l k hlt)⟩
      subst hea
      have z0 := (hbel.cell (World.block_lt_of_cell? w _ z0)).trans z0
      generalize l[k] = x at *
      have hBO := Lib.hid (wBytesOf wr x hxi)
      replace hlt := Lib.hid hlt
      replace hb := Lib.hid hb
      replace hbel := Lib.hid hbel
      clear hcap5 hk hx hxi
      go_upto_region 5 with fail
      go_wp2_with (first
        | (go_at_call 37; refine hBO.out.mono ?_; rintro e w2 ⟨u, rfl, hu, hbu⟩
           obtain ⟨au, nu, cu, rfl⟩ := hu.form
           obtain ⟨v6, w6, hr6, hv6, hg6, ho6⟩ := Bs.append (P := Tryd.prog) (ty := 22) (hb.out.below hbu) hu Tryd.underlying22 info5 (by rw [bytesB_len, hN.out, hN8.out]; have := hlt.out; omega) (Nat.le_trans hbel.out.size hbu.size)
           have hbl6 := Lib.hid ((bel_trans hbel.out hbu).grown hg6 (Nat.le_trans hbel.out.size hbu.size) (fun k e => (hb.out.below hbu).ge (Nat.le_refl _) e))
           rw [← hnx] at hv6
           obtain ⟨a6, n6, cc6, rfl⟩ := hv6.form
           replace hv6 := Lib.hid hv6
           clear hg6 ho6 hu hbu)
        | (at_builtin; refine wpList_append_bs rfl _ _ 22 rfl hr6 rfl rfl ?_))
      go_roundw
      case rel => exact ⟨k + 1, rfl, hlt.out, hv6.out, hbl6.out⟩
      case measure => have := hlt.out; simp [intOf]; omega
    · have t1 : ((k : Int) < (l.length : Int)) = False := eq_false (by omega)
      have hkl : k = l.length := by omega
      subst hkl
      rw [List.take_length] at hb
      have hL := Lib.hid (hlay.out wr _ hbel hb)
      clear hlt hk hb hbel hN hcap5
      go_wp2_with (go_at_call 38; refine hL.out.mono ?_; rintro e w2 ⟨t, rfl, hq⟩)
      go_ret
      exact ⟨t, rfl, hq⟩
end Go.Proofs.YtjihhojlakapnaaDoor
