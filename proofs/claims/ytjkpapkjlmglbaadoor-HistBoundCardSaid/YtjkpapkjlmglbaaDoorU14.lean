/- 'awake', 'HistShows'. -/
import Derived.Test.YtjkpapkjlmglbaaDoorU13
import Derived.Test.YtjkpapkjlmglbaaDoorM8
import Derived.Test.YtjkpapkjlmglbaaDoorQ2
import Derived.Test.YtjkpapkjlmglbaaDoorQ4
namespace Go.Proofs.YtjkpapkjlmglbaaDoor
open Go.RowKit
set_option linter.unusedVariables false
set_option linter.unusedSimpArgs false
attribute [local go_sem] cell_set set_set m_undef

theorem Two.memXK {W w : World} {mb rb : Nat} {M N : List UInt8} {K : Kp} {α : Type} (h : Two W w mb rb M N K) {f : Nat} {args : Array Value} {ret : α → Value} {M' : α → List UInt8} {G : α → Kp} (c : ∀ B O, MemP w B mb M O → B ≤ w.heap.size → Keep w O K → Calls Tryd.prog f args w fun e w' => MemX w w' B mb O ret M' G e)
    (hG : ∀ x w', (G x).P w' → ∀ k, (G x).S k → w.heap.size ≤ k) :
    Calls Tryd.prog f args w fun e w' => ∃ x, e = .returned (ret x) ∧ Two W w' mb rb (M' x) N (K.and (G x)) := by
  obtain ⟨B, O, R, h1, h2, h3, h4, h5, h6, h7⟩ := h
  refine (c B O h3 h2 (h7.wider (fun k hk => .inl (.inl hk)))).mono fun e w' ⟨x, O', he, h8, h9, h10⟩ => ⟨x, he, B, O', R, h1, Nat.le_trans h2 h9.size, h8, h4.turn h9 (fun k hk hO => h5 k hO hk), fun k hk hR => h9.apart (fun hO => h5 k hO hR) (h4.lt hR).1 hk,
    h6.trans ((h9.below (fun k hk => (h3.lt hk).2) h2).mono h1), (h7.turn h9.both).and ⟨h10.1, fun k hk => ⟨(h10.2 k hk).1, fun hO => by
      rcases hO with hO | hO
      · exact (h10.2 k hk).2 hO
      · have := hG x w' h10.1 k hk; have := (h4.lt hO).1; omega⟩⟩⟩
theorem keepPW {w : World} (h : GL w) : Keep w (fun _ => False) PW := ⟨h, fun k hk => ⟨by have : k = 0 ∨ k = 1 := hk; have := h.lt; omega, id⟩⟩
attribute [local irreducible] textV linesL addM showL
set_option maxRecDepth 100000 in
set_option maxHeartbeats 2000000 in
theorem wAwakeH (w : World) (hg : GL w) : Calls Tryd.prog 6 #[] w fun e w' => e = .returned (.bool true) ∧ Below w.heap.size w w' := by
  obtain ⟨he1, he2⟩ := awake_hist
  have hF1 := fun (w9 : World) => wFlat w9 0 (.slice none 0 0) [] (Bs.nil _ _)
  unfold FlatQ at hF1
  generalize flatL [] = M0 at *
  have hA1 := fun (w9 : World) (B mb : Nat) (O : Nat → Prop) (h : MemP w9 B mb M0 O) (hb : B ≤ w9.heap.size) (hk : Keep w9 O PW) => wAdd h hb hk [97] (by simp)
  generalize addM M0 [97] = M1 at *
  have hA2 := fun (w9 : World) (B mb : Nat) (O : Nat → Prop) (h : MemP w9 B mb M1 O) (hb : B ≤ w9.heap.size) (hk : Keep w9 O PW) => wAdd h hb hk [98] (by simp)
  generalize addM M1 [98] = M2 at *
  have hLn := fun (w9 : World) (B mb : Nat) (O : Nat → Prop) (h : MemP w9 B mb M2 O) (hb : B ≤ w9.heap.size) (hk : Keep w9 O PW) => wLines h hb hk
  have hSh := fun (w9 : World) (B mb : Nat) (O : Nat → Prop) (h : MemP w9 B mb M2 O) (hb : B ≤ w9.heap.size) (hk : Keep w9 O PW) => wShow h hb hk
  rw [he1] at hLn hSh
  rw [he2] at hSh
  have hLn2 : ∀ (w9 : World) (B mb : Nat) (O : Nat → Prop) (h : MemP w9 B mb M2 O) (hb : B ≤ w9.heap.size) (hk : Keep w9 O PW), Calls Tryd.prog 10 #[.pointer (some ⟨mb, 0, none⟩)] w9 fun e w' => MemX w9 w' B mb O (fun v : Value => v) (fun _ => M2) (fun v => .vsN w9.heap.size 1 v 2 [.string ⟨#[97]⟩, .string ⟨#[98]⟩]) e := hLn
  have hK0 := keepPW hg
  replace hF1 := Lib.hid hF1
  replace hA1 := Lib.hid hA1
  replace hA2 := Lib.hid hA2
  replace hLn := Lib.hid hLn2
  replace hSh := Lib.hid hSh
  clear he1 he2 hg hLn2
  go_enter Tryd.func6, Tryd.ntmps6
  go_wp2_with (first
    | (go_at_call 7; refine (hF1.out _).mono ?_; rintro e w2 ⟨mb, O2, rfl, hP2, hb2⟩; have hT := Uno.make (Below.refl _ _) hK0 hP2 hb2; clear hP2 hb2)
    | (go_at_call_of 14 (⟨#[97]⟩ : ByteArray); refine (hT.memK (fun B O h hb hk => hA1.out _ _ _ _ h hb hk)).mono ?_; rintro e w3 ⟨rfl, hT2⟩; clear hT; have hT := hT2; clear hT2)
    | (go_at_call_of 14 (⟨#[98]⟩ : ByteArray); refine (hT.memK (fun B O h hb hk => hA2.out _ _ _ _ h hb hk)).mono ?_; rintro e w3 ⟨rfl, hT2⟩; clear hT; have hT := hT2; clear hT2)
    | (go_at_call 10; refine (hT.memXK (fun B O h hb hk => hLn.out _ _ _ _ h hb hk)).mono ?_; rintro e w4 ⟨v4, rfl, hT2⟩; clear hT; have hT := hT2.keep (L := PW.and (.vs 1 v4 2 [.string ⟨#[97]⟩, .string ⟨#[98]⟩])) fun O h => h.left.and h.right.left; clear hT2; obtain ⟨bu, ou, cu, rfl⟩ := (show Vs _ 0 1 _ _ _ from hT.fact.2).some_of (by omega))
    | (go_at_call 12; refine (hT.memK (fun B O h hb hk => hSh.out _ _ _ _ h hb hk.left)).mono ?_; rintro e w5 ⟨rfl, hT2⟩; clear hT; have hT := hT2; clear hT2; have z1 := (show Vs _ 0 1 _ _ _ from hT.fact.2).cell 1 _ rfl))
  go_ret
  exact ⟨rfl, hT.bel⟩
set_option maxRecDepth 100000 in
set_option maxHeartbeats 2000000 in
theorem histShows {w : World} (v : Value) (l : List UInt8) (h : Rb w v l) (hg : GL w) : Calls Tryd.prog 3 #[v] w fun e w' => e = .returned (.bool true) ∧ Below w.heap.size w w' := by
  obtain ⟨ad, cap, rfl⟩ := h.form
  have hA := Lib.hid (wAwakeH w hg)
  by_cases hl : 9000 < l.length
  · clear h hg
    have t1 : ((9000 : Int) < (l.length : Int)) = True := by simp; omega
    go_enter Tryd.func3, Tryd.ntmps3
    go_wp2_with (go_at_call 6; refine hA.out.mono ?_; rintro e w1 ⟨rfl, hb1⟩)
    go_ret
    exact ⟨rfl, hb1⟩
  have t1 : ((9000 : Int) < (l.length : Int)) = False := by simp; omega
  have hF1 := fun (w9 : World) (h9 : Rb w9 (.slice ad l.length cap) l) => wFlatR w9 _ l h9
  have hF2 := fun (w9 : World) (h9 : Rb w9 (.slice ad l.length cap) l) => rFlat w9 _ l h9
  unfold FlatQ at hF1
  generalize flatL l = M at *
  have hLw := fun (w9 : World) (B mb : Nat) (O : Nat → Prop) (h : MemP w9 B mb M O) (hb : B ≤ w9.heap.size) (hk : Keep w9 O PW) => wLines h hb hk
  have hLr := fun (w9 : World) (B rb : Nat) (R : Nat → Prop) (h : RefP w9 B rb M R) (hb : B ≤ w9.heap.size) => rLines h hb
  have hSw := fun (w9 : World) (B mb : Nat) (O : Nat → Prop) (h : MemP w9 B mb M O) (hb : B ≤ w9.heap.size) (hk : Keep w9 O PW) => wShow h hb hk
  have hSr := fun (w9 : World) (B rb : Nat) (R : Nat → Prop) (h : RefP w9 B rb M R) (hb : B ≤ w9.heap.size) (hk : Keep w9 R PW) => rShow h hb hk
  have hln := linesL_len (textV M)
  have htl := textV_len M
  generalize linesL (textV M) = ls at *
  have hn : ls.length ≤ 1000000000 := by omega
  have hSm := fun (w9 : World) (v u : Value) (hv : Rv w9 1 v ls.length (sl ls)) (hu : Rv w9 1 u ls.length (sl ls)) => wSame w9 v u ls ls hv hu hn hn
  have hdd : decide (ls = ls) = true := by simp
  rw [hdd] at hSm
  generalize showL ls = sh at *
  have hK0 := keepPW hg
  replace h := Lib.hid h
  replace hF1 := Lib.hid hF1
  replace hF2 := Lib.hid hF2
  replace hLw := Lib.hid hLw
  replace hLr := Lib.hid hLr
  replace hSw := Lib.hid hSw
  replace hSr := Lib.hid hSr
  replace hSm := Lib.hid hSm
  replace hK0 := Lib.hid hK0
  clear hl hg hln htl hn hdd
  go_enter Tryd.func3, Tryd.ntmps3
  go_wp2_with (first
    | (go_at_call 6; refine hA.out.mono ?_; rintro e w1 ⟨rfl, hb1⟩; have h1 := Lib.hid (h.out.below hb1); have hK1 := Lib.hid (hK0.out.turn (Turn.of_below hb1 _)); replace hb1 := Lib.hid hb1)
    | (go_at_call 7; refine (hF1.out _ h1.out).mono ?_; rintro e w2 ⟨mb, O2, rfl, hP2, hb2⟩; have h2 := Lib.hid (h1.out.below hb2); replace hP2 := Lib.hid hP2; replace hb2 := Lib.hid hb2)
    | (go_at_call 8; refine (hF2.out _ h2.out).mono ?_; rintro e w3 ⟨rb, R3, rfl, hP3, hb3⟩; have hT := Two.make hb1.out hK1.out hP2.out hb2.out hP3 hb3; clear hP3 hb3)
    | (go_at_call 10; refine (hT.memXK (fun B O h hb hk => hLw.out _ _ _ _ h hb hk) (fun x w' h => vsN_new h)).mono ?_; rintro e w4 ⟨v4, rfl, hT2⟩; clear hT; have hT := hT2.keep (L := PW.and (.vs 1 v4 ls.length (sl ls))) fun O h => h.left.and h.right.left; clear hT2; obtain ⟨a4, c4, rfl, -⟩ := (show Vs _ 0 1 _ _ _ from hT.fact.2).form)
    | (go_at_call 11; refine (hT.refX (fun B O h hb => hLr.out _ _ _ _ h hb) (fun x w' h => vsN_new h)).mono ?_; rintro e w5 ⟨v5, rfl, hT2⟩; clear hT; have hT := hT2.keep (L := (PW.and (.vs 1 (.slice a4 ls.length c4) ls.length (sl ls))).and (.vs 1 v5 ls.length (sl ls))) fun O h => h.left.and h.right.left; clear hT2; obtain ⟨a5, c5, rfl, -⟩ := (show Vs _ 0 1 _ _ _ from hT.fact.2).form)
    | (go_at_call 9; refine (hT.still (hSm.out _ _ _ (show Vs _ 0 1 _ _ _ from hT.fact.1.2).rv (show Vs _ 0 1 _ _ _ from hT.fact.2).rv)).mono ?_; rintro e w6 ⟨rfl, hT2⟩; clear hT; have hT := hT2; clear hT2)
    | (go_at_call 12; refine (hT.memK (fun B O h hb hk => hSw.out _ _ _ _ h hb hk.left.left)).mono ?_; rintro e w7 ⟨rfl, hT2⟩; clear hT; have hT := hT2; clear hT2)
    | (go_at_call 13; refine (hT.refK (fun B O h hb hk => hSr.out _ _ _ _ h hb hk.left.left)).mono ?_; rintro e w8 ⟨rfl, hT2⟩; clear hT; have hT := hT2; clear hT2))
  go_ret
  exact ⟨rfl, hT.bel⟩
end Go.Proofs.YtjkpapkjlmglbaaDoor
