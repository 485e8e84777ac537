/- Two memories: how they come to be, and how the reference's bytes are read. -/
import Derived.Test.YtjkpapkjlmglbaaDoorQR
import Derived.Test.YtjkpapkjlmglbaaDoorM8
import Derived.Test.YtjkpapkjlmglbaaDoorP1
namespace Go.Proofs.YtjkpapkjlmglbaaDoor
open Go.RowKit
set_option linter.unusedVariables false
set_option linter.unusedSimpArgs false
attribute [local go_sem] cell_set set_set m_undef

theorem RefP.mono {w : World} {B B' rb : Nat} {M : List UInt8} {R : Nat → Prop} (h : RefP w B rb M R) (hB : B' ≤ B) : RefP w B' rb M R := by
  obtain ⟨vb, ob, ⟨h1, h2, h3, cap, ws, nn, h4, h5⟩, h6⟩ := h
  exact ⟨vb, ob, ⟨h1, by omega, h3, cap, ws, nn, h4, h5.mono hB⟩, h6⟩
/-- Both memories are made. -/
theorem Two.make {W w1 w2 w3 : World} {mb rb : Nat} {M N : List UInt8} {O R : Nat → Prop} {K : Kp} (hb1 : Below W.heap.size W w1) (hK : Keep w1 (fun _ => False) K) (hP : MemP w2 w1.heap.size mb M O) (hb2 : Below w1.heap.size w1 w2) (hR : RefP w3 w2.heap.size rb N R) (hb3 : Below w2.heap.size w2 w3) :
    Two W w3 mb rb M N K :=
  ⟨w1.heap.size, O, R, hb1.size, Nat.le_trans hb2.size hb3.size, hP.below hb3, hR.mono hb2.size, fun k hk hr => by have := (hP.lt hk).1; have := (hR.lt hr).2; omega, bel_trans (bel_trans hb1 hb2) hb3,
    ⟨((hK.turn (Turn.of_below hb2 _)).turn (Turn.of_below hb3 _)).1, fun k hk => by
      have h1 := (hK.2 k hk).1
      have h2 := hb2.size
      have h3 := hb3.size
      refine ⟨by omega, fun hO => ?_⟩
      rcases hO with hO | hO
      · have := (hP.lt hO).2; omega
      · have := (hR.lt hO).2; omega⟩⟩
/-- A call that the reference's memory is handed to, and that gives something new. -/
theorem Two.refX {W w : World} {mb rb : Nat} {M N : List UInt8} {K : Kp} {α : Type} (h : Two W w mb rb M N K) {f : Nat} {args : Array Value} {ret : α → Value} {N' : α → List UInt8} {G : α → Kp} (c : ∀ B R, RefP w B rb N R → B ≤ w.heap.size → Calls Tryd.prog f args w fun e w' => RefX w w' B rb R ret N' G e)
    (hG : ∀ x w', (G x).P w' → ∀ k, (G x).S k → w.heap.size ≤ k) :
    Calls Tryd.prog f args w fun e w' => ∃ x, e = .returned (ret x) ∧ Two W w' mb rb M (N' x) (K.and (G x)) := by
  obtain ⟨B, O, R, h1, h2, h3, h4, h5, h6, h7⟩ := h
  refine (c B R h4 h2).mono fun e w' ⟨x, R', he, h8, h9, h10⟩ => ⟨x, he, B, O, R', h1, Nat.le_trans h2 h9.size, h3.turn h9 (fun k hk hR => h5 k hk hR), h8, fun k hk => h9.apart (h5 k hk) (h3.lt hk).1,
    h6.trans ((h9.below (fun k hk => (h4.lt hk).2) h2).mono h1), (h7.turn h9.both').and ⟨h10.1, fun k hk => ⟨(h10.2 k hk).1, fun hO => by
      rcases hO with hO | hO
      · have := hG x w' h10.1 k hk; have := (h3.lt hO).1; omega
      · exact (h10.2 k hk).2 hO⟩⟩⟩
/-- .. what is kept is handed over too. -/
theorem Two.memK {W w : World} {mb rb : Nat} {M N : List UInt8} {K : Kp} (h : Two W w mb rb M N K) {f : Nat} {args : Array Value} {M' : List UInt8} {v : Value} (c : ∀ B O, MemP w B mb M O → B ≤ w.heap.size → Keep w O K → Calls Tryd.prog f args w fun e w' => MemQ w w' B mb M' O v e) :
    Calls Tryd.prog f args w fun e w' => e = .returned v ∧ Two W w' mb rb M' N K := by
  obtain ⟨B, O, R, h1, h2, h3, h4, h5, h6, h7⟩ := h
  refine (c B O h3 h2 (h7.wider (fun k hk => .inl (.inl hk)))).mono fun e w' ⟨he, O', h8, h9⟩ => ⟨he, B, O', R, h1, Nat.le_trans h2 h9.size, h8, h4.turn h9 (fun k hk hO => h5 k hO hk), fun k hk hR => h9.apart (fun hO => h5 k hO hR) (h4.lt hR).1 hk,
    h6.trans ((h9.below (fun k hk => (h3.lt hk).2) h2).mono h1), h7.turn h9.both⟩
theorem Two.refK {W w : World} {mb rb : Nat} {M N : List UInt8} {K : Kp} (h : Two W w mb rb M N K) {f : Nat} {args : Array Value} {N' : List UInt8} {v : Value} (c : ∀ B R, RefP w B rb N R → B ≤ w.heap.size → Keep w R K → Calls Tryd.prog f args w fun e w' => RefQ w w' B rb N' R v e) :
    Calls Tryd.prog f args w fun e w' => e = .returned v ∧ Two W w' mb rb M N' K := by
  obtain ⟨B, O, R, h1, h2, h3, h4, h5, h6, h7⟩ := h
  refine (c B R h4 h2 (h7.wider (fun k hk => .inl (.inr hk)))).mono fun e w' ⟨he, R', h8, h9⟩ => ⟨he, B, O, R', h1, Nat.le_trans h2 h9.size, h3.turn h9 (fun k hk hR => h5 k hk hR), h8, fun k hk => h9.apart (h5 k hk) (h3.lt hk).1,
    h6.trans ((h9.below (fun k hk => (h4.lt hk).2) h2).mono h1), h7.turn h9.both'⟩
/-- The reference's memory, its slice s. -/
def RefV (w : World) (B rb : Nat) (s : Value) (M : List UInt8) (R : Nat → Prop) : Prop :=
  ∃ vb ob cap ws nn, s = .slice (some ⟨vb, ob, none⟩) 8192 cap ∧ M.length = 8192 ∧ B ≤ rb ∧ vb ≠ rb ∧ Blk w rb #[s, ws, .bool nn] 41 ∧ Bs w B s M ∧ ∀ k, R k ↔ (k = rb ∨ k = vb)
theorem RefP.val {w : World} {B rb : Nat} {M : List UInt8} {R : Nat → Prop} (h : RefP w B rb M R) : ∃ s, RefV w B rb s M R := by
  obtain ⟨vb, ob, ⟨h1, h2, h3, cap, ws, nn, h4, h5⟩, h6⟩ := h
  exact ⟨_, vb, ob, cap, ws, nn, rfl, h1, h2, h3, h4, h5, h6⟩
theorem RefV.ref {w : World} {B rb : Nat} {s : Value} {M : List UInt8} {R : Nat → Prop} (h : RefV w B rb s M R) : RefP w B rb M R := by
  obtain ⟨vb, ob, cap, ws, nn, rfl, h1, h2, h3, h4, h5, h6⟩ := h
  exact ⟨vb, ob, ⟨h1, h2, h3, cap, ws, nn, h4, h5⟩, h6⟩
theorem RefV.turn {w w' : World} {B rb : Nat} {s : Value} {M : List UInt8} {R O O' : Nat → Prop} (h : RefV w B rb s M R) (hT : Turn w w' O O') (hd : ∀ k, R k → ¬ O k) : RefV w' B rb s M R := by
  obtain ⟨vb, ob, cap, ws, nn, rfl, h1, h2, h3, h4, h5, h6⟩ := h
  exact ⟨vb, ob, cap, ws, nn, rfl, h1, h2, h3, h4.turn hT (hd _ ((h6 _).2 (.inl rfl))), h5.turn hT (fun k hk => by cases hk; exact hd _ ((h6 _).2 (.inr rfl))), h6⟩
/-- Two memories, the reference's slice s. -/
def TwoS (W w : World) (mb rb : Nat) (s : Value) (M N : List UInt8) (K : Kp) : Prop := ∃ B O R, W.heap.size ≤ B ∧ B ≤ w.heap.size ∧ MemP w B mb M O ∧ RefV w B rb s N R ∧ (∀ k, O k → ¬ R k) ∧ Below W.heap.size W w ∧ Keep w (fun k => O k ∨ R k) K
section
variable {W w : World} {mb rb : Nat} {s : Value} {M N : List UInt8} {K L : Kp}
theorem Two.val (h : Two W w mb rb M N K) : ∃ s, TwoS W w mb rb s M N K := by
  obtain ⟨B, O, R, h1, h2, h3, h4, h5, h6, h7⟩ := h
  obtain ⟨s, hs⟩ := h4.val
  exact ⟨s, B, O, R, h1, h2, h3, hs, h5, h6, h7⟩
theorem TwoS.two (h : TwoS W w mb rb s M N K) : Two W w mb rb M N K := by
  obtain ⟨B, O, R, h1, h2, h3, h4, h5, h6, h7⟩ := h
  exact ⟨B, O, R, h1, h2, h3, h4.ref, h5, h6, h7⟩
theorem TwoS.form (h : TwoS W w mb rb s M N K) : ∃ vb ob cap, s = .slice (some ⟨vb, ob, none⟩) 8192 cap := by
  obtain ⟨B, O, R, h1, h2, h3, ⟨vb, ob, cap, ws, nn, e, _⟩, _⟩ := h
  exact ⟨vb, ob, cap, e⟩
theorem TwoS.cell (h : TwoS W w mb rb s M N K) : w.cell? ⟨rb, 0, none⟩ = some s := by
  obtain ⟨B, O, R, h1, h2, h3, ⟨vb, ob, cap, ws, nn, e, _, _, _, h4, _⟩, _⟩ := h
  rw [h4.cell]; rfl
theorem TwoS.bs (h : TwoS W w mb rb s M N K) : Bs w 0 s N := by
  obtain ⟨B, O, R, h1, h2, h3, ⟨vb, ob, cap, ws, nn, e, _, _, _, _, h4, _⟩, _⟩ := h
  exact h4.zero
theorem TwoS.fact (h : TwoS W w mb rb s M N K) : K.P w := h.two.fact
theorem TwoS.load (h : TwoS W w mb rb s M N K) {f : Nat} {args : Array Value} {l : List UInt8} (c : ∀ B O, MemP w B mb M O → B ≤ w.heap.size → Calls Tryd.prog f args w fun e w' => LoadQ w w' B mb M O l e) :
    Calls Tryd.prog f args w fun e w' => ∃ v, e = .returned v ∧ TwoS W w' mb rb s M N (K.and (.bs v l)) := by
  obtain ⟨B, O, R, h1, h2, h3, h4, h5, h6, h7⟩ := h
  refine (c B O h3 h2).mono fun e w' ⟨v, O', he, hv, h8, h9, h10⟩ => ⟨v, he, B, O', R, h1, Nat.le_trans h2 h9.size, h8, h4.turn h9 (fun k hk hO => h5 k hO hk), fun k hk hR => h9.apart (fun hO => h5 k hO hR) (h4.ref.lt hR).1 hk,
    h6.trans ((h9.below (fun k hk => (h3.lt hk).2) h2).mono h1), (h7.turn h9.both).and (Keep.bs hv (fun k hk hO => by
      rcases hO with hO | hO
      · exact h10 k hk hO
      · have := hv.geB hk; have := (h4.ref.lt hO).1; omega))⟩
end
end Go.Proofs.YtjkpapkjlmglbaaDoor
