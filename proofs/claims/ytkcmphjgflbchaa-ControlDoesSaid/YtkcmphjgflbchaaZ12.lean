/- Texts merged: W16 W17 W18 W19 W20 W21 W22. -/
import Derived.Test.YtkcmphjgflbchaaZ11
import Derived.Lib.OthersKept
import Derived.RangeFuncOwn
/- The reference's 'takes', 'made'. -/
namespace Go.Proofs.Ytkcmphjgflbchaa
open Go.RowKit
set_option linter.unusedVariables false
set_option linter.unusedSimpArgs false
attribute [local go_sem] cell_set set_set m_undef

def wantC : Nat → ByteArray
  | 1 => ⟨#[104]⟩
  | 2 => ⟨#[104]⟩
  | 4 => ⟨#[103]⟩
  | 5 => ⟨#[103]⟩
  | 6 => ⟨#[104, 103]⟩
  | 7 => ⟨#[103]⟩
  | 9 => ⟨#[103]⟩
  | 10 => ⟨#[103]⟩
  | _ => ⟨#[]⟩
theorem rTk0 (w : World) : Calls Try.prog 33 #[.string ⟨#[73, 70]⟩] w fun e w' => e = .returned (.string ⟨#[]⟩) ∧ w = w' := by
  go_enter Try.func33, Try.ntmps33
  go_wp2
  go_ret
  exact ⟨rfl, rfl⟩
theorem rTk1 (w : World) : Calls Try.prog 33 #[.string ⟨#[69, 76, 83, 69]⟩] w fun e w' => e = .returned (.string ⟨#[104]⟩) ∧ w = w' := by
  go_enter Try.func33, Try.ntmps33
  go_wp2
  go_ret
  exact ⟨rfl, rfl⟩
theorem rTk2 (w : World) : Calls Try.prog 33 #[.string ⟨#[84, 72, 69, 78]⟩] w fun e w' => e = .returned (.string ⟨#[104]⟩) ∧ w = w' := by
  go_enter Try.func33, Try.ntmps33
  go_wp2
  go_ret
  exact ⟨rfl, rfl⟩
theorem rTk3 (w : World) : Calls Try.prog 33 #[.string ⟨#[66, 69, 71, 73, 78]⟩] w fun e w' => e = .returned (.string ⟨#[]⟩) ∧ w = w' := by
  go_enter Try.func33, Try.ntmps33
  go_wp2
  go_ret
  exact ⟨rfl, rfl⟩
theorem rTk4 (w : World) : Calls Try.prog 33 #[.string ⟨#[85, 78, 84, 73, 76]⟩] w fun e w' => e = .returned (.string ⟨#[103]⟩) ∧ w = w' := by
  go_enter Try.func33, Try.ntmps33
  go_wp2
  go_ret
  exact ⟨rfl, rfl⟩
theorem rTk5 (w : World) : Calls Try.prog 33 #[.string ⟨#[87, 72, 73, 76, 69]⟩] w fun e w' => e = .returned (.string ⟨#[103]⟩) ∧ w = w' := by
  go_enter Try.func33, Try.ntmps33
  go_wp2
  go_ret
  exact ⟨rfl, rfl⟩
theorem rTk6 (w : World) : Calls Try.prog 33 #[.string ⟨#[82, 69, 80, 69, 65, 84]⟩] w fun e w' => e = .returned (.string ⟨#[104, 103]⟩) ∧ w = w' := by
  go_enter Try.func33, Try.ntmps33
  go_wp2
  go_ret
  exact ⟨rfl, rfl⟩
theorem rTk7 (w : World) : Calls Try.prog 33 #[.string ⟨#[65, 71, 65, 73, 78]⟩] w fun e w' => e = .returned (.string ⟨#[103]⟩) ∧ w = w' := by
  go_enter Try.func33, Try.ntmps33
  go_wp2
  go_ret
  exact ⟨rfl, rfl⟩
theorem rTk8 (w : World) : Calls Try.prog 33 #[.string ⟨#[68, 79]⟩] w fun e w' => e = .returned (.string ⟨#[]⟩) ∧ w = w' := by
  go_enter Try.func33, Try.ntmps33
  go_wp2
  go_ret
  exact ⟨rfl, rfl⟩
theorem rTk9 (w : World) : Calls Try.prog 33 #[.string ⟨#[76, 79, 79, 80]⟩] w fun e w' => e = .returned (.string ⟨#[103]⟩) ∧ w = w' := by
  go_enter Try.func33, Try.ntmps33
  go_wp2
  go_ret
  exact ⟨rfl, rfl⟩
theorem rTk10 (w : World) : Calls Try.prog 33 #[.string ⟨#[43, 76, 79, 79, 80]⟩] w fun e w' => e = .returned (.string ⟨#[103]⟩) ∧ w = w' := by
  go_enter Try.func33, Try.ntmps33
  go_wp2
  go_ret
  exact ⟨rfl, rfl⟩
theorem rTk (k : Nat) (hk : k ≤ 10) (w : World) : Calls Try.prog 33 #[.string (nmC k)] w fun e w' => e = .returned (.string (wantC k)) ∧ w = w' := by
  have hc : k = 0 ∨ k = 1 ∨ k = 2 ∨ k = 3 ∨ k = 4 ∨ k = 5 ∨ k = 6 ∨ k = 7 ∨ k = 8 ∨ k = 9 ∨ k = 10 := by omega
  rcases hc with rfl | rfl | rfl | rfl | rfl | rfl | rfl | rfl | rfl | rfl | rfl
  · exact rTk0 w
  · exact rTk1 w
  · exact rTk2 w
  · exact rTk3 w
  · exact rTk4 w
  · exact rTk5 w
  · exact rTk6 w
  · exact rTk7 w
  · exact rTk8 w
  · exact rTk9 w
  · exact rTk10 w
theorem rXtE (p x : Int) (hp : 1 ≤ p ∧ p ≤ 141) (hx : x = p * 8) (w : World) : Calls Try.prog 67 #[.int .i64 p] w fun e w' => e = .returned (.int .i64 x) ∧ Below w.heap.size w w' := by
  have h := rXt p w
  rw [if_pos hp, ← hx] at h
  exact h
/-- What 'made' gives. -/
def MadeQ (w w' : World) (cl ll : List Int) (hole tgt : Int) (e : Ending) : Prop :=
  ∃ cv lv, e = .returned (.agg #[.string ⟨#[]⟩, cv, lv, .int .i64 hole, .int .i64 tgt]) ∧ Vs w' w.heap.size 1 cv cl.length (ic cl) ∧ Vs w' w.heap.size 1 lv ll.length (ic ll) ∧ (∀ b, cv.ownBlock = some b → lv.ownBlock ≠ some b) ∧ Below w.heap.size w w'
theorem Vs.set_far {w : World} {B k n : Nat} {v : Value} {cs : List Value} (h : Vs w B k v n cs) {b o : Nat} (hb : b < B) (u : Value) : Vs (w.setCell ⟨b, o, none⟩ u) B k v n cs :=
  h.kept (grownBy_setCell w b o u) (by
    rcases h.own with e | ⟨x, e, hx, _⟩
    · exact .inl e
    · refine .inr fun e2 => ?_
      rw [e2] at e
      cases e
      omega)
def fiveW (W : World) (N : Nat) (a b c d e : Value) : World := ((((W.setCell ⟨N, 0, none⟩ a).setCell ⟨N, 1, none⟩ b).setCell ⟨N, 2, none⟩ c).setCell ⟨N, 3, none⟩ d).setCell ⟨N, 4, none⟩ e
theorem Vs.five {W : World} {B N k n : Nat} {v : Value} {cs : List Value} (h : Vs W B k v n cs) (hb : N < B) (a b c d e : Value) : Vs (fiveW W N a b c d e) B k v n cs :=
  ((((h.set_far hb a).set_far hb b).set_far hb c).set_far hb d).set_far hb e
theorem madeFin {w W : World} {N : Nat} {x0 y0 z0 u0 v0 cv lv : Value} {cl ll : List Int} (hole tgt : Int) (hb : Below w.heap.size w W) (hN : w.heap.size ≤ N) (hB : Blk W N #[x0, y0, z0, u0, v0] 77) (hc : Vs W (N + 1) 1 cv cl.length (ic cl)) (hl : Vs W (N + 1) 1 lv ll.length (ic ll)) (hd : ∀ b, cv.ownBlock = some b → lv.ownBlock ≠ some b) :
    Blk (fiveW W N (.string ⟨#[]⟩) cv lv (.int .i64 hole) (.int .i64 tgt)) N #[.string ⟨#[]⟩, cv, lv, .int .i64 hole, .int .i64 tgt] 77 ∧ MadeQ w (fiveW W N (.string ⟨#[]⟩) cv lv (.int .i64 hole) (.int .i64 tgt)) cl ll hole tgt (.returned (.agg #[.string ⟨#[]⟩, cv, lv, .int .i64 hole, .int .i64 tgt])) :=
  ⟨hB.setFive, cv, lv, rfl, (hc.five (by omega) _ _ _ _ _).mono (by omega), (hl.five (by omega) _ _ _ _ _).mono (by omega), hd, bel_set (bel_set (bel_set (bel_set (bel_set hb hN _) hN _) hN _) hN _) hN _⟩
theorem Vs.ofNew (w : World) (l : List Int) {B : Nat} (hB : B ≤ w.heap.size) : Vs (w.alloc (.cells (ic l).toArray 2)) B 1 (.slice (some ⟨w.heap.size, 0, none⟩) l.length l.length) l.length (ic l) :=
  Vs.of_blk (Blk.new w (ic l).toArray 2) (by rw [ic_len, Nat.mul_one]) (by rw [List.size_toArray, ic_len]; omega) (Nat.le_refl _) (fun j u hj => by rw [List.getElem?_toArray]; exact hj) (fun u hu => by unfold ic at hu; obtain ⟨x, _, rfl⟩ := List.mem_map.1 hu; rfl) hB
theorem Vs.belowA {w : World} {B k n : Nat} {v : Value} {cs : List Value} (h : Vs w B k v n cs) (o : Obj) : Vs (w.alloc o) B k v n cs :=
  h.kept (grown_of_below (bel_alloc (Below.refl _ _) o)) (by
    rcases h.own with e | ⟨x, e, _, _⟩
    · exact .inl e
    · exact .inr (by rw [e]; exact fun h => by cases h))
theorem madeNone {w W : World} {N : Nat} {x0 y0 z0 u0 v0 : Value} (hole tgt : Int) (hb : Below w.heap.size w W) (hN : w.heap.size ≤ N) (hB : Blk W N #[x0, y0, z0, u0, v0] 77) :
    Blk (fiveW W N (.string ⟨#[]⟩) (.slice none 0 0) (.slice none 0 0) (.int .i64 hole) (.int .i64 tgt)) N #[.string ⟨#[]⟩, (.slice none 0 0), (.slice none 0 0), .int .i64 hole, .int .i64 tgt] 77 ∧ MadeQ w (fiveW W N (.string ⟨#[]⟩) (.slice none 0 0) (.slice none 0 0) (.int .i64 hole) (.int .i64 tgt)) [] [] hole tgt (.returned (.agg #[.string ⟨#[]⟩, (.slice none 0 0), (.slice none 0 0), .int .i64 hole, .int .i64 tgt])) :=
  madeFin (cl := []) (ll := []) hole tgt hb hN hB (Vs.nil _ _ 1) (Vs.nil _ _ 1) (fun b hb => by cases hb)
theorem madeLays {w W : World} {N : Nat} {x0 y0 z0 u0 v0 : Value} (ll : List Int) (hole tgt : Int) (hb : Below w.heap.size w W) (hN : w.heap.size ≤ N) (hB : Blk W N #[x0, y0, z0, u0, v0] 77) :
    Blk (fiveW (W.alloc (.cells (ic ll).toArray 2)) N (.string ⟨#[]⟩) (.slice none 0 0) (.slice (some ⟨W.heap.size, 0, none⟩) ll.length ll.length) (.int .i64 hole) (.int .i64 tgt)) N #[.string ⟨#[]⟩, (.slice none 0 0), (.slice (some ⟨W.heap.size, 0, none⟩) ll.length ll.length), .int .i64 hole, .int .i64 tgt] 77 ∧ MadeQ w (fiveW (W.alloc (.cells (ic ll).toArray 2)) N (.string ⟨#[]⟩) (.slice none 0 0) (.slice (some ⟨W.heap.size, 0, none⟩) ll.length ll.length) (.int .i64 hole) (.int .i64 tgt)) [] ll hole tgt (.returned (.agg #[.string ⟨#[]⟩, (.slice none 0 0), (.slice (some ⟨W.heap.size, 0, none⟩) ll.length ll.length), .int .i64 hole, .int .i64 tgt])) :=
  madeFin (cl := []) (ll := ll) hole tgt (bel_alloc hb (.cells (ic ll).toArray 2)) hN (hB.alloc _) (Vs.nil _ _ 1) (Vs.ofNew W ll (by have := hB.lt; omega)) (fun b hb => by cases hb)
theorem madeCells {w W : World} {N : Nat} {x0 y0 z0 u0 v0 : Value} (cl : List Int) (hole tgt : Int) (hb : Below w.heap.size w W) (hN : w.heap.size ≤ N) (hB : Blk W N #[x0, y0, z0, u0, v0] 77) :
    Blk (fiveW (W.alloc (.cells (ic cl).toArray 2)) N (.string ⟨#[]⟩) (.slice (some ⟨W.heap.size, 0, none⟩) cl.length cl.length) (.slice none 0 0) (.int .i64 hole) (.int .i64 tgt)) N #[.string ⟨#[]⟩, (.slice (some ⟨W.heap.size, 0, none⟩) cl.length cl.length), (.slice none 0 0), .int .i64 hole, .int .i64 tgt] 77 ∧ MadeQ w (fiveW (W.alloc (.cells (ic cl).toArray 2)) N (.string ⟨#[]⟩) (.slice (some ⟨W.heap.size, 0, none⟩) cl.length cl.length) (.slice none 0 0) (.int .i64 hole) (.int .i64 tgt)) cl [] hole tgt (.returned (.agg #[.string ⟨#[]⟩, (.slice (some ⟨W.heap.size, 0, none⟩) cl.length cl.length), (.slice none 0 0), .int .i64 hole, .int .i64 tgt])) :=
  madeFin (cl := cl) (ll := []) hole tgt (bel_alloc hb (.cells (ic cl).toArray 2)) hN (hB.alloc _) (Vs.ofNew W cl (by have := hB.lt; omega)) (Vs.nil _ _ 1) (fun b _ e => by cases e)
theorem Vs.drewA {w : World} {B k n : Nat} {v : Value} {cs : List Value} (h : Vs w B k v n cs) : Vs w.drew B k v n cs :=
  h.kept (grown_of_below (bel_drew (Below.refl _ _))) (by
    rcases h.own with e | ⟨x, e, _, _⟩
    · exact .inl e
    · exact .inr (by rw [e]; exact fun h => by cases h))
theorem MadeQ.drew {w w' : World} {cl ll : List Int} {hole tgt : Int} {e : Ending} (h : MadeQ w w' cl ll hole tgt e) : MadeQ w w'.drew cl ll hole tgt e := by
  obtain ⟨cv, lv, h1, h2, h3, h4, h5⟩ := h
  exact ⟨cv, lv, h1, h2.drewA, h3.drewA, h4, bel_drew h5⟩
theorem madeBoth {w W : World} {N : Nat} {x0 y0 z0 u0 v0 : Value} (cl ll : List Int) (hole tgt : Int) (hb : Below w.heap.size w W) (hN : w.heap.size ≤ N) (hB : Blk W N #[x0, y0, z0, u0, v0] 77) :
    Blk (fiveW ((W.alloc (.cells (ic cl).toArray 2)).alloc (.cells (ic ll).toArray 2)) N (.string ⟨#[]⟩) (.slice (some ⟨W.heap.size, 0, none⟩) cl.length cl.length) (.slice (some ⟨W.heap.size + 1, 0, none⟩) ll.length ll.length) (.int .i64 hole) (.int .i64 tgt)) N #[.string ⟨#[]⟩, (.slice (some ⟨W.heap.size, 0, none⟩) cl.length cl.length), (.slice (some ⟨W.heap.size + 1, 0, none⟩) ll.length ll.length), .int .i64 hole, .int .i64 tgt] 77 ∧ MadeQ w (fiveW ((W.alloc (.cells (ic cl).toArray 2)).alloc (.cells (ic ll).toArray 2)) N (.string ⟨#[]⟩) (.slice (some ⟨W.heap.size, 0, none⟩) cl.length cl.length) (.slice (some ⟨W.heap.size + 1, 0, none⟩) ll.length ll.length) (.int .i64 hole) (.int .i64 tgt)) cl ll hole tgt (.returned (.agg #[.string ⟨#[]⟩, (.slice (some ⟨W.heap.size, 0, none⟩) cl.length cl.length), (.slice (some ⟨W.heap.size + 1, 0, none⟩) ll.length ll.length), .int .i64 hole, .int .i64 tgt])) := by
  have hl := Vs.ofNew (W.alloc (.cells (ic cl).toArray 2)) ll (B := N + 1) (by have := hB.lt; simp; omega)
  rw [World.size_alloc] at hl
  exact madeFin (cl := cl) (ll := ll) hole tgt (bel_alloc (bel_alloc hb (.cells (ic cl).toArray 2)) (.cells (ic ll).toArray 2)) hN ((hB.alloc _).alloc _) ((Vs.ofNew W cl (by have := hB.lt; omega)).belowA _) hl (fun b h1 h2 => by
    have e1 : W.heap.size = b := by simpa [Value.ownBlock] using h1
    have e2 : W.heap.size + 1 = b := by simpa [Value.ownBlock] using h2
    omega)
/-- The walk's state in 'made': all is new; the result's block; what was known still holds. -/
def BelQ (w w1 : World) (N : Nat) (c : Array Value) : Prop := Below w.heap.size w w1 ∧ Blk w1 N c 77 ∧ ∀ (a : Addr) (u : Value), w.cell? a = some u → w1.cell? a = some u
theorem BelQ.below' {w w1 w2 : World} {N : Nat} {c : Array Value} (h : BelQ w w1 N c) (hb : Below w1.heap.size w1 w2) : BelQ w w2 N c :=
  ⟨bel_trans h.1 hb, h.2.1.below hb, fun a u hu => (hb.cell (World.block_lt_of_cell? w1 a (h.2.2 a u hu))).trans (h.2.2 a u hu)⟩
theorem BelQ.start (w : World) {c : Array Value} : BelQ w (w.alloc (.cells c 77)) w.heap.size c :=
  ⟨bel_alloc (Below.refl _ _) _, Blk.new _ _ _, fun a u hu => ((bel_alloc (Below.refl w.heap.size w) (.cells c 77)).cell (World.block_lt_of_cell? w a hu)).trans hu⟩
set_option maxRecDepth 100000 in
set_option maxHeartbeats 1000000 in
theorem rMd0 (w : World) (here : Int) (hh : 1536 ≤ here ∧ here ≤ 5632) (a b : Int) (al : Option Addr) (nl cl0 : Nat) :
    Calls Try.prog 37 #[.string ⟨#[73, 70]⟩, .int .i64 here, .slice al nl cl0] w fun e w' => MadeQ w w' [32, 0] [here + 8] 0 0 e := by
  obtain ⟨h8, hh8⟩ : ∃ h8, h8 = here + 8 := ⟨_, rfl⟩
  have w8 : IntKind.i64.wrap (here + 8) = h8 := by rw [hh8, IntKind.wrap_i64]; omega
  obtain ⟨h16, hh16⟩ : ∃ h16, h16 = here + 16 := ⟨_, rfl⟩
  have w16 : IntKind.i64.wrap (here + 16) = h16 := by rw [hh16, IntKind.wrap_i64]; omega
  rw [← hh8]
  have x4 := Lib.hid (rXtE 4 32 (by omega) (by omega))
  have x3 := Lib.hid (rXtE 3 24 (by omega) (by omega))
  have hBL : BelQ w (w.alloc (.cells #[.string ⟨#[]⟩, .slice none 0 0, .slice none 0 0, .int .i64 0, .int .i64 0] 77)) w.heap.size #[.string ⟨#[]⟩, .slice none 0 0, .slice none 0 0, .int .i64 0, .int .i64 0] := BelQ.start w
  clear hh hh8 hh16
  go_enter Try.func37, Try.ntmps37
  obtain ⟨y0, y1, y2, y3, y4, -⟩ := hBL.2.1.five
  go_wp2_with (first
    | (go_at_call_of 67 (4 : Int); refine (x4.out _).mono ?_; rintro e w1 ⟨rfl, hbx⟩; have hP := hBL.below' hbx; clear hBL; have hBL := hP; clear hP; clear hbx; obtain ⟨y0, y1, y2, y3, y4, -⟩ := hBL.2.1.five)
    | (go_at_call_of 67 (3 : Int); refine (x3.out _).mono ?_; rintro e w2 ⟨rfl, hbx⟩; have hP := hBL.below' hbx; clear hBL; have hBL := hP; clear hP; clear hbx; obtain ⟨y0, y1, y2, y3, y4, -⟩ := hBL.2.1.five; have hBX := (hBL.below' (bel_alloc (Below.refl _ _) (.cells #[.int .i64 (32), .int .i64 (0)] 2))).below' (bel_alloc (Below.refl _ _) (.cells #[.int .i64 (h8)] 2)); obtain ⟨s0, s1, s2, s3, s4, s5, s6, s7, s8, s9, -⟩ := (show Blk _ w.heap.size _ _ from hBX.2.1).five; clear hBX))
  have hf := madeBoth [32, 0] [h8] 0 0 hBL.1 (Nat.le_refl _) hBL.2.1
  refine ret_blk (v := ?vv) w.heap.size _ 77 hf.1 ?res rfl ?post
  case post => exact hf.2
  case res => exact (fun w' h => by obtain ⟨e1, e2, e3, e4, e5, -⟩ := h.five; simp [results, Try.results37, go_sem, e1, e2, e3, e4, e5])
set_option maxRecDepth 100000 in
set_option maxHeartbeats 1000000 in
theorem rMd1 (w : World) (here : Int) (hh : 1536 ≤ here ∧ here ≤ 5632) (a b : Int) (al : Option Addr) (nl cl0 : Nat) (hl : Rv w 1 (.slice al 1 cl0) 1 (ic [a])) :
    Calls Try.prog 37 #[.string ⟨#[69, 76, 83, 69]⟩, .int .i64 here, .slice al 1 cl0] w fun e w' => MadeQ w w' [24, 0] [here + 8] a (here + 16) e := by
  obtain ⟨ad, rfl, q0⟩ : ∃ ad, al = some ad ∧ w.cell? ad = some (.int .i64 a) := by
    rcases hl.2.2 with ⟨e, e2⟩ | ⟨a', c, e, h5⟩
    · cases e2
    · cases e; exact ⟨a', rfl, (by have := h5 0 _ rfl; rwa [add_zeroC] at this)⟩
  obtain ⟨h8, hh8⟩ : ∃ h8, h8 = here + 8 := ⟨_, rfl⟩
  have w8 : IntKind.i64.wrap (here + 8) = h8 := by rw [hh8, IntKind.wrap_i64]; omega
  obtain ⟨h16, hh16⟩ : ∃ h16, h16 = here + 16 := ⟨_, rfl⟩
  have w16 : IntKind.i64.wrap (here + 16) = h16 := by rw [hh16, IntKind.wrap_i64]; omega
  rw [← hh8]
  rw [← hh16]
  have x4 := Lib.hid (rXtE 4 32 (by omega) (by omega))
  have x3 := Lib.hid (rXtE 3 24 (by omega) (by omega))
  have hBL : BelQ w (w.alloc (.cells #[.string ⟨#[]⟩, .slice none 0 0, .slice none 0 0, .int .i64 0, .int .i64 0] 77)) w.heap.size #[.string ⟨#[]⟩, .slice none 0 0, .slice none 0 0, .int .i64 0, .int .i64 0] := BelQ.start w
  clear hh hh8 hh16
  go_enter Try.func37, Try.ntmps37
  obtain ⟨y0, y1, y2, y3, y4, -⟩ := hBL.2.1.five
  go_wp2_with (first
    | (go_at_call_of 67 (4 : Int); refine (x4.out _).mono ?_; rintro e w1 ⟨rfl, hbx⟩; have hP := hBL.below' hbx; clear hBL; have hBL := hP; clear hP; clear hbx; obtain ⟨y0, y1, y2, y3, y4, -⟩ := hBL.2.1.five; have p0 := hBL.2.2 _ _ q0)
    | (go_at_call_of 67 (3 : Int); refine (x3.out _).mono ?_; rintro e w2 ⟨rfl, hbx⟩; have hP := hBL.below' hbx; clear hBL; have hBL := hP; clear hP; clear hbx; obtain ⟨y0, y1, y2, y3, y4, -⟩ := hBL.2.1.five; have p0 := hBL.2.2 _ _ q0; have hBX := (hBL.below' (bel_alloc (Below.refl _ _) (.cells #[.int .i64 (24), .int .i64 (0)] 2))).below' (bel_alloc (Below.refl _ _) (.cells #[.int .i64 (h8)] 2)); obtain ⟨s0, s1, s2, s3, s4, s5, s6, s7, s8, s9, -⟩ := (show Blk _ w.heap.size _ _ from hBX.2.1).five; have r0 := hBX.2.2 _ _ q0; have hBY := hBL.below' (bel_alloc (Below.refl _ _) (.cells #[.int .i64 (24), .int .i64 (0)] 2)); have rr0 := hBY.2.2 _ _ q0; clear hBY; clear hBX))
  have hf := madeBoth [24, 0] [h8] a h16 hBL.1 (Nat.le_refl _) hBL.2.1
  refine ret_blk (v := ?vv) w.heap.size _ 77 hf.1 ?res rfl ?post
  case post => exact hf.2
  case res => exact (fun w' h => by obtain ⟨e1, e2, e3, e4, e5, -⟩ := h.five; simp [results, Try.results37, go_sem, e1, e2, e3, e4, e5])
set_option maxRecDepth 100000 in
set_option maxHeartbeats 1000000 in
theorem rMd2 (w : World) (here : Int) (hh : 1536 ≤ here ∧ here ≤ 5632) (a b : Int) (al : Option Addr) (nl cl0 : Nat) (hl : Rv w 1 (.slice al 1 cl0) 1 (ic [a])) :
    Calls Try.prog 37 #[.string ⟨#[84, 72, 69, 78]⟩, .int .i64 here, .slice al 1 cl0] w fun e w' => MadeQ w w' [] [] a here e := by
  obtain ⟨ad, rfl, q0⟩ : ∃ ad, al = some ad ∧ w.cell? ad = some (.int .i64 a) := by
    rcases hl.2.2 with ⟨e, e2⟩ | ⟨a', c, e, h5⟩
    · cases e2
    · cases e; exact ⟨a', rfl, (by have := h5 0 _ rfl; rwa [add_zeroC] at this)⟩
  obtain ⟨h8, hh8⟩ : ∃ h8, h8 = here + 8 := ⟨_, rfl⟩
  have w8 : IntKind.i64.wrap (here + 8) = h8 := by rw [hh8, IntKind.wrap_i64]; omega
  obtain ⟨h16, hh16⟩ : ∃ h16, h16 = here + 16 := ⟨_, rfl⟩
  have w16 : IntKind.i64.wrap (here + 16) = h16 := by rw [hh16, IntKind.wrap_i64]; omega
  have x4 := Lib.hid (rXtE 4 32 (by omega) (by omega))
  have x3 := Lib.hid (rXtE 3 24 (by omega) (by omega))
  have hBL : BelQ w (w.alloc (.cells #[.string ⟨#[]⟩, .slice none 0 0, .slice none 0 0, .int .i64 0, .int .i64 0] 77)) w.heap.size #[.string ⟨#[]⟩, .slice none 0 0, .slice none 0 0, .int .i64 0, .int .i64 0] := BelQ.start w
  clear hh hh8 hh16
  go_enter Try.func37, Try.ntmps37
  obtain ⟨y0, y1, y2, y3, y4, -⟩ := hBL.2.1.five
  go_wp2_with (first
    | (go_at_call_of 67 (4 : Int); refine (x4.out _).mono ?_; rintro e w1 ⟨rfl, hbx⟩; have hP := hBL.below' hbx; clear hBL; have hBL := hP; clear hP; clear hbx; obtain ⟨y0, y1, y2, y3, y4, -⟩ := hBL.2.1.five; have p0 := hBL.2.2 _ _ q0)
    | (go_at_call_of 67 (3 : Int); refine (x3.out _).mono ?_; rintro e w2 ⟨rfl, hbx⟩; have hP := hBL.below' hbx; clear hBL; have hBL := hP; clear hP; clear hbx; obtain ⟨y0, y1, y2, y3, y4, -⟩ := hBL.2.1.five; have p0 := hBL.2.2 _ _ q0; have hBX := hBL; obtain ⟨s0, s1, s2, s3, s4, s5, s6, s7, s8, s9, -⟩ := (show Blk _ w.heap.size _ _ from hBX.2.1).five; have r0 := hBX.2.2 _ _ q0; clear hBX))
  have hf := madeNone a here hBL.1 (Nat.le_refl _) hBL.2.1
  refine ret_blk (v := ?vv) w.heap.size _ 77 hf.1 ?res rfl ?post
  case post => exact hf.2
  case res => exact (fun w' h => by obtain ⟨e1, e2, e3, e4, e5, -⟩ := h.five; simp [results, Try.results37, go_sem, e1, e2, e3, e4, e5])
set_option maxRecDepth 100000 in
set_option maxHeartbeats 1000000 in
theorem rMd3 (w : World) (here : Int) (hh : 1536 ≤ here ∧ here ≤ 5632) (a b : Int) (al : Option Addr) (nl cl0 : Nat) :
    Calls Try.prog 37 #[.string ⟨#[66, 69, 71, 73, 78]⟩, .int .i64 here, .slice al nl cl0] w fun e w' => MadeQ w w' [] [here] 0 0 e := by
  obtain ⟨h8, hh8⟩ : ∃ h8, h8 = here + 8 := ⟨_, rfl⟩
  have w8 : IntKind.i64.wrap (here + 8) = h8 := by rw [hh8, IntKind.wrap_i64]; omega
  obtain ⟨h16, hh16⟩ : ∃ h16, h16 = here + 16 := ⟨_, rfl⟩
  have w16 : IntKind.i64.wrap (here + 16) = h16 := by rw [hh16, IntKind.wrap_i64]; omega
  have x4 := Lib.hid (rXtE 4 32 (by omega) (by omega))
  have x3 := Lib.hid (rXtE 3 24 (by omega) (by omega))
  have hBL : BelQ w (w.alloc (.cells #[.string ⟨#[]⟩, .slice none 0 0, .slice none 0 0, .int .i64 0, .int .i64 0] 77)) w.heap.size #[.string ⟨#[]⟩, .slice none 0 0, .slice none 0 0, .int .i64 0, .int .i64 0] := BelQ.start w
  clear hh hh8 hh16
  go_enter Try.func37, Try.ntmps37
  obtain ⟨y0, y1, y2, y3, y4, -⟩ := hBL.2.1.five
  go_wp2_with (first
    | (go_at_call_of 67 (4 : Int); refine (x4.out _).mono ?_; rintro e w1 ⟨rfl, hbx⟩; have hP := hBL.below' hbx; clear hBL; have hBL := hP; clear hP; clear hbx; obtain ⟨y0, y1, y2, y3, y4, -⟩ := hBL.2.1.five)
    | (go_at_call_of 67 (3 : Int); refine (x3.out _).mono ?_; rintro e w2 ⟨rfl, hbx⟩; have hP := hBL.below' hbx; clear hBL; have hBL := hP; clear hP; clear hbx; obtain ⟨y0, y1, y2, y3, y4, -⟩ := hBL.2.1.five; have hBX := hBL.below' (bel_alloc (Below.refl _ _) (.cells #[.int .i64 (here)] 2)); obtain ⟨s0, s1, s2, s3, s4, s5, s6, s7, s8, s9, -⟩ := (show Blk _ w.heap.size _ _ from hBX.2.1).five; clear hBX))
  have hf := madeLays [here] 0 0 hBL.1 (Nat.le_refl _) hBL.2.1
  refine ret_blk (v := ?vv) w.heap.size _ 77 hf.1 ?res rfl ?post
  case post => exact hf.2
  case res => exact (fun w' h => by obtain ⟨e1, e2, e3, e4, e5, -⟩ := h.five; simp [results, Try.results37, go_sem, e1, e2, e3, e4, e5])
set_option maxRecDepth 100000 in
set_option maxHeartbeats 1000000 in
theorem rMd4 (w : World) (here : Int) (hh : 1536 ≤ here ∧ here ≤ 5632) (a b : Int) (al : Option Addr) (nl cl0 : Nat) (hl : Rv w 1 (.slice al 1 cl0) 1 (ic [a])) :
    Calls Try.prog 37 #[.string ⟨#[85, 78, 84, 73, 76]⟩, .int .i64 here, .slice al 1 cl0] w fun e w' => MadeQ w w' [32, a] [] 0 0 e := by
  obtain ⟨ad, rfl, q0⟩ : ∃ ad, al = some ad ∧ w.cell? ad = some (.int .i64 a) := by
    rcases hl.2.2 with ⟨e, e2⟩ | ⟨a', c, e, h5⟩
    · cases e2
    · cases e; exact ⟨a', rfl, (by have := h5 0 _ rfl; rwa [add_zeroC] at this)⟩
  obtain ⟨h8, hh8⟩ : ∃ h8, h8 = here + 8 := ⟨_, rfl⟩
  have w8 : IntKind.i64.wrap (here + 8) = h8 := by rw [hh8, IntKind.wrap_i64]; omega
  obtain ⟨h16, hh16⟩ : ∃ h16, h16 = here + 16 := ⟨_, rfl⟩
  have w16 : IntKind.i64.wrap (here + 16) = h16 := by rw [hh16, IntKind.wrap_i64]; omega
  have x4 := Lib.hid (rXtE 4 32 (by omega) (by omega))
  have x3 := Lib.hid (rXtE 3 24 (by omega) (by omega))
  have hBL : BelQ w (w.alloc (.cells #[.string ⟨#[]⟩, .slice none 0 0, .slice none 0 0, .int .i64 0, .int .i64 0] 77)) w.heap.size #[.string ⟨#[]⟩, .slice none 0 0, .slice none 0 0, .int .i64 0, .int .i64 0] := BelQ.start w
  clear hh hh8 hh16
  go_enter Try.func37, Try.ntmps37
  obtain ⟨y0, y1, y2, y3, y4, -⟩ := hBL.2.1.five
  go_wp2_with (first
    | (go_at_call_of 67 (4 : Int); refine (x4.out _).mono ?_; rintro e w1 ⟨rfl, hbx⟩; have hP := hBL.below' hbx; clear hBL; have hBL := hP; clear hP; clear hbx; obtain ⟨y0, y1, y2, y3, y4, -⟩ := hBL.2.1.five; have p0 := hBL.2.2 _ _ q0)
    | (go_at_call_of 67 (3 : Int); refine (x3.out _).mono ?_; rintro e w2 ⟨rfl, hbx⟩; have hP := hBL.below' hbx; clear hBL; have hBL := hP; clear hP; clear hbx; obtain ⟨y0, y1, y2, y3, y4, -⟩ := hBL.2.1.five; have p0 := hBL.2.2 _ _ q0; have hBX := hBL.below' (bel_alloc (Below.refl _ _) (.cells #[.int .i64 (32), .int .i64 (a)] 2)); obtain ⟨s0, s1, s2, s3, s4, s5, s6, s7, s8, s9, -⟩ := (show Blk _ w.heap.size _ _ from hBX.2.1).five; have r0 := hBX.2.2 _ _ q0; clear hBX))
  have hf := madeCells [32, a] 0 0 hBL.1 (Nat.le_refl _) hBL.2.1
  refine ret_blk (v := ?vv) w.heap.size _ 77 hf.1 ?res rfl ?post
  case post => exact hf.2
  case res => exact (fun w' h => by obtain ⟨e1, e2, e3, e4, e5, -⟩ := h.five; simp [results, Try.results37, go_sem, e1, e2, e3, e4, e5])
set_option maxRecDepth 100000 in
set_option maxHeartbeats 1000000 in
theorem rMd5 (w : World) (here : Int) (hh : 1536 ≤ here ∧ here ≤ 5632) (a b : Int) (al : Option Addr) (nl cl0 : Nat) (hl : Rv w 1 (.slice al 1 cl0) 1 (ic [a])) :
    Calls Try.prog 37 #[.string ⟨#[87, 72, 73, 76, 69]⟩, .int .i64 here, .slice al 1 cl0] w fun e w' => MadeQ w w' [32, 0] [here + 8, a] 0 0 e := by
  obtain ⟨ad, rfl, q0⟩ : ∃ ad, al = some ad ∧ w.cell? ad = some (.int .i64 a) := by
    rcases hl.2.2 with ⟨e, e2⟩ | ⟨a', c, e, h5⟩
    · cases e2
    · cases e; exact ⟨a', rfl, (by have := h5 0 _ rfl; rwa [add_zeroC] at this)⟩
  obtain ⟨h8, hh8⟩ : ∃ h8, h8 = here + 8 := ⟨_, rfl⟩
  have w8 : IntKind.i64.wrap (here + 8) = h8 := by rw [hh8, IntKind.wrap_i64]; omega
  obtain ⟨h16, hh16⟩ : ∃ h16, h16 = here + 16 := ⟨_, rfl⟩
  have w16 : IntKind.i64.wrap (here + 16) = h16 := by rw [hh16, IntKind.wrap_i64]; omega
  rw [← hh8]
  have x4 := Lib.hid (rXtE 4 32 (by omega) (by omega))
  have x3 := Lib.hid (rXtE 3 24 (by omega) (by omega))
  have hBL : BelQ w (w.alloc (.cells #[.string ⟨#[]⟩, .slice none 0 0, .slice none 0 0, .int .i64 0, .int .i64 0] 77)) w.heap.size #[.string ⟨#[]⟩, .slice none 0 0, .slice none 0 0, .int .i64 0, .int .i64 0] := BelQ.start w
  clear hh hh8 hh16
  go_enter Try.func37, Try.ntmps37
  obtain ⟨y0, y1, y2, y3, y4, -⟩ := hBL.2.1.five
  go_wp2_with (first
    | (go_at_call_of 67 (4 : Int); refine (x4.out _).mono ?_; rintro e w1 ⟨rfl, hbx⟩; have hP := hBL.below' hbx; clear hBL; have hBL := hP; clear hP; clear hbx; obtain ⟨y0, y1, y2, y3, y4, -⟩ := hBL.2.1.five; have p0 := hBL.2.2 _ _ q0)
    | (go_at_call_of 67 (3 : Int); refine (x3.out _).mono ?_; rintro e w2 ⟨rfl, hbx⟩; have hP := hBL.below' hbx; clear hBL; have hBL := hP; clear hP; clear hbx; obtain ⟨y0, y1, y2, y3, y4, -⟩ := hBL.2.1.five; have p0 := hBL.2.2 _ _ q0; have hBX := (hBL.below' (bel_alloc (Below.refl _ _) (.cells #[.int .i64 (32), .int .i64 (0)] 2))).below' (bel_alloc (Below.refl _ _) (.cells #[.int .i64 (h8), .int .i64 (a)] 2)); obtain ⟨s0, s1, s2, s3, s4, s5, s6, s7, s8, s9, -⟩ := (show Blk _ w.heap.size _ _ from hBX.2.1).five; have r0 := hBX.2.2 _ _ q0; have hBY := hBL.below' (bel_alloc (Below.refl _ _) (.cells #[.int .i64 (32), .int .i64 (0)] 2)); have rr0 := hBY.2.2 _ _ q0; clear hBY; clear hBX))
  have hf := madeBoth [32, 0] [h8, a] 0 0 hBL.1 (Nat.le_refl _) hBL.2.1
  refine ret_blk (v := ?vv) w.heap.size _ 77 hf.1 ?res rfl ?post
  case post => exact hf.2
  case res => exact (fun w' h => by obtain ⟨e1, e2, e3, e4, e5, -⟩ := h.five; simp [results, Try.results37, go_sem, e1, e2, e3, e4, e5])
set_option maxRecDepth 100000 in
set_option maxHeartbeats 1000000 in
theorem rMd6 (w : World) (here : Int) (hh : 1536 ≤ here ∧ here ≤ 5632) (a b : Int) (al : Option Addr) (nl cl0 : Nat) (hl : Rv w 1 (.slice al 2 cl0) 2 (ic [b, a])) :
    Calls Try.prog 37 #[.string ⟨#[82, 69, 80, 69, 65, 84]⟩, .int .i64 here, .slice al 2 cl0] w fun e w' => MadeQ w w' [24, a] [] b (here + 16) e := by
  obtain ⟨ad, rfl, q0, q1, q2⟩ : ∃ ad, al = some ad ∧ w.cell? ad = some (.int .i64 b) ∧ w.cell? (ad.add 1) = some (.int .i64 a) ∧ w.cell? ⟨ad.block, ad.off + 1, none⟩ = some (.int .i64 a) := by
    rcases hl.2.2 with ⟨e, e2⟩ | ⟨a', c, e, h5⟩
    · cases e2
    · cases e; exact ⟨a', rfl, (by have := h5 0 _ rfl; rwa [add_zeroC] at this), h5 1 _ rfl, (by have := h5 1 _ rfl; rwa [show a'.add 1 = ⟨a'.block, a'.off + 1, none⟩ by simp [Addr.add]] at this)⟩
  obtain ⟨h8, hh8⟩ : ∃ h8, h8 = here + 8 := ⟨_, rfl⟩
  have w8 : IntKind.i64.wrap (here + 8) = h8 := by rw [hh8, IntKind.wrap_i64]; omega
  obtain ⟨h16, hh16⟩ : ∃ h16, h16 = here + 16 := ⟨_, rfl⟩
  have w16 : IntKind.i64.wrap (here + 16) = h16 := by rw [hh16, IntKind.wrap_i64]; omega
  rw [← hh16]
  have x4 := Lib.hid (rXtE 4 32 (by omega) (by omega))
  have x3 := Lib.hid (rXtE 3 24 (by omega) (by omega))
  have hBL : BelQ w (w.alloc (.cells #[.string ⟨#[]⟩, .slice none 0 0, .slice none 0 0, .int .i64 0, .int .i64 0] 77)) w.heap.size #[.string ⟨#[]⟩, .slice none 0 0, .slice none 0 0, .int .i64 0, .int .i64 0] := BelQ.start w
  clear hh hh8 hh16
  go_enter Try.func37, Try.ntmps37
  obtain ⟨y0, y1, y2, y3, y4, -⟩ := hBL.2.1.five
  go_upto_region 18 with (first
    | (go_at_call_of 67 (4 : Int); refine (x4.out _).mono ?_; rintro e w1 ⟨rfl, hbx⟩; have hP := hBL.below' hbx; clear hBL; have hBL := hP; clear hP; clear hbx; obtain ⟨y0, y1, y2, y3, y4, -⟩ := hBL.2.1.five; have p0 := hBL.2.2 _ _ q0; have p1 := hBL.2.2 _ _ q1; have p2 := hBL.2.2 _ _ q2)
    | (go_at_call_of 67 (3 : Int); refine (x3.out _).mono ?_; rintro e w2 ⟨rfl, hbx⟩; have hP := hBL.below' hbx; clear hBL; have hBL := hP; clear hP; clear hbx; obtain ⟨y0, y1, y2, y3, y4, -⟩ := hBL.2.1.five; have p0 := hBL.2.2 _ _ q0; have p1 := hBL.2.2 _ _ q1; have p2 := hBL.2.2 _ _ q2))
  have hBn := hBL
  have hD := hBL.below' (bel_drew (Below.refl _ _))
  clear hBL y0 y1 y2 y3 y4
  have hBL := hD
  clear hD
  refine wp_region_noPanic ?_
  refine wp_region_held_drew (S := (fun w9 => Below w.heap.size w w9)) (by kernel_rfl) ?_ (fun hHeld => ?_)
  · first | exact hZ | exact hBL.1
  refine wpAnyH_take (i := 0) (oi := { dst := some 74, op := Go.Op.move (Go.Operand.tmp 8), type := 2, pos := "ref.go:46", after := #[], guard := none }) (v := ?v1) rfl (by kernel_rfl) (by kernel_rfl) (by kernel_rfl) (fun _ _ _ h => h) (Or.inl ⟨by rfl, ?hy1⟩) (by assumption) ?rest1
  case hy1 => (intro w hSw; (try dsimp only at hSw); have p0 := (hSw.cell (World.block_lt_of_cell? _ _ q0)).trans q0; have p1 := (hSw.cell (World.block_lt_of_cell? _ _ q1)).trans q1; have p2 := (hSw.cell (World.block_lt_of_cell? _ _ q2)).trans q2; go_simp <;> with_reducible rfl)
  try simp only [Act.put, List.setIfInBounds_toArray, List.set_cons_zero, List.set_cons_succ]
  refine wpAnyH_take (i := 1) (oi := { dst := some 75, op := Go.Op.move (Go.Operand.tmp 2), type := 24, pos := "ref.go:46", after := #[], guard := none }) (v := ?v2) rfl (by kernel_rfl) (by kernel_rfl) (by kernel_rfl) (fun _ _ _ h => h) (Or.inl ⟨by rfl, ?hy2⟩) (by assumption) ?rest2
  case hy2 => (intro w hSw; (try dsimp only at hSw); have p0 := (hSw.cell (World.block_lt_of_cell? _ _ q0)).trans q0; have p1 := (hSw.cell (World.block_lt_of_cell? _ _ q1)).trans q1; have p2 := (hSw.cell (World.block_lt_of_cell? _ _ q2)).trans q2; go_simp <;> with_reducible rfl)
  try simp only [Act.put, List.setIfInBounds_toArray, List.set_cons_zero, List.set_cons_succ]
  refine wpAnyH_take (i := 2) (oi := { dst := some 76, op := Go.Op.indexAddr 24 (Go.Operand.tmp 75) (Go.Operand.const (Go.Value.int Go.IntKind.i64 1)), type := 0, pos := "ref.go:46", after := #[{ on := 1, ground := Go.Ground.data }], guard := none }) (v := ?v3) rfl (by kernel_rfl) (by kernel_rfl) (by kernel_rfl) (fun _ _ _ h => h) (Or.inl ⟨by rfl, ?hy3⟩) (by assumption) ?rest3
  case hy3 => (intro w hSw; (try dsimp only at hSw); have p0 := (hSw.cell (World.block_lt_of_cell? _ _ q0)).trans q0; have p1 := (hSw.cell (World.block_lt_of_cell? _ _ q1)).trans q1; have p2 := (hSw.cell (World.block_lt_of_cell? _ _ q2)).trans q2; go_simp <;> with_reducible rfl)
  try simp only [Act.put, List.setIfInBounds_toArray, List.set_cons_zero, List.set_cons_succ]
  refine wpAnyH_take (i := 3) (oi := { dst := some 77, op := Go.Op.load 2 (Go.Operand.tmp 76), type := 2, pos := "ref.go:46", after := #[{ on := 2, ground := Go.Ground.data }], guard := none }) (v := ?v4) rfl (by kernel_rfl) (by kernel_rfl) (by kernel_rfl) (fun _ _ _ h => h) (Or.inl ⟨by rfl, ?hy4⟩) (by assumption) ?rest4
  case hy4 => (intro w hSw; (try dsimp only at hSw); have p0 := (hSw.cell (World.block_lt_of_cell? _ _ q0)).trans q0; have p1 := (hSw.cell (World.block_lt_of_cell? _ _ q1)).trans q1; have p2 := (hSw.cell (World.block_lt_of_cell? _ _ q2)).trans q2; go_simp <;> with_reducible rfl)
  try simp only [Act.put, List.setIfInBounds_toArray, List.set_cons_zero, List.set_cons_succ]
  refine wpAnyH_take (i := 5) (oi := { dst := some 79, op := Go.Op.move (Go.Operand.tmp 2), type := 24, pos := "ref.go:46", after := #[], guard := none }) (v := ?v5) rfl (by kernel_rfl) (by kernel_rfl) (by kernel_rfl) (fun _ _ _ h => h) (Or.inl ⟨by rfl, ?hy5⟩) (by assumption) ?rest5
  case hy5 => (intro w hSw; (try dsimp only at hSw); have p0 := (hSw.cell (World.block_lt_of_cell? _ _ q0)).trans q0; have p1 := (hSw.cell (World.block_lt_of_cell? _ _ q1)).trans q1; have p2 := (hSw.cell (World.block_lt_of_cell? _ _ q2)).trans q2; go_simp <;> with_reducible rfl)
  try simp only [Act.put, List.setIfInBounds_toArray, List.set_cons_zero, List.set_cons_succ]
  refine wpAnyH_take (i := 6) (oi := { dst := some 80, op := Go.Op.indexAddr 24 (Go.Operand.tmp 79) (Go.Operand.const (Go.Value.int Go.IntKind.i64 0)), type := 0, pos := "ref.go:46", after := #[{ on := 5, ground := Go.Ground.data }], guard := none }) (v := ?v6) rfl (by kernel_rfl) (by kernel_rfl) (by kernel_rfl) (fun _ _ _ h => h) (Or.inl ⟨by rfl, ?hy6⟩) (by assumption) ?rest6
  case hy6 => (intro w hSw; (try dsimp only at hSw); have p0 := (hSw.cell (World.block_lt_of_cell? _ _ q0)).trans q0; have p1 := (hSw.cell (World.block_lt_of_cell? _ _ q1)).trans q1; have p2 := (hSw.cell (World.block_lt_of_cell? _ _ q2)).trans q2; go_simp <;> with_reducible rfl)
  try simp only [Act.put, List.setIfInBounds_toArray, List.set_cons_zero, List.set_cons_succ]
  refine wpAnyH_take (i := 7) (oi := { dst := some 81, op := Go.Op.load 2 (Go.Operand.tmp 80), type := 2, pos := "ref.go:46", after := #[{ on := 6, ground := Go.Ground.data }], guard := none }) (v := ?v7) rfl (by kernel_rfl) (by kernel_rfl) (by kernel_rfl) (fun _ _ _ h => h) (Or.inl ⟨by rfl, ?hy7⟩) (by assumption) ?rest7
  case hy7 => (intro w hSw; (try dsimp only at hSw); have p0 := (hSw.cell (World.block_lt_of_cell? _ _ q0)).trans q0; have p1 := (hSw.cell (World.block_lt_of_cell? _ _ q1)).trans q1; have p2 := (hSw.cell (World.block_lt_of_cell? _ _ q2)).trans q2; go_simp <;> with_reducible rfl)
  try simp only [Act.put, List.setIfInBounds_toArray, List.set_cons_zero, List.set_cons_succ]
  refine wpAnyH_take (i := 8) (oi := { dst := some 82, op := Go.Op.move (Go.Operand.tmp 1), type := 2, pos := "ref.go:46", after := #[], guard := none }) (v := ?v8) rfl (by kernel_rfl) (by kernel_rfl) (by kernel_rfl) (fun _ _ _ h => h) (Or.inl ⟨by rfl, ?hy8⟩) (by assumption) ?rest8
  case hy8 => (intro w hSw; (try dsimp only at hSw); have p0 := (hSw.cell (World.block_lt_of_cell? _ _ q0)).trans q0; have p1 := (hSw.cell (World.block_lt_of_cell? _ _ q1)).trans q1; have p2 := (hSw.cell (World.block_lt_of_cell? _ _ q2)).trans q2; go_simp <;> with_reducible rfl)
  try simp only [Act.put, List.setIfInBounds_toArray, List.set_cons_zero, List.set_cons_succ]
  refine wpAnyH_take (i := 9) (oi := { dst := some 83, op := Go.Op.binOp Go.BinOp.add 2 (Go.Operand.tmp 82) (Go.Operand.const (Go.Value.int Go.IntKind.i64 16)) 2, type := 2, pos := "ref.go:46", after := #[{ on := 8, ground := Go.Ground.data }], guard := none }) (v := ?v9) rfl (by kernel_rfl) (by kernel_rfl) (by kernel_rfl) (fun _ _ _ h => h) (Or.inl ⟨by rfl, ?hy9⟩) (by assumption) ?rest9
  case hy9 => (intro w hSw; (try dsimp only at hSw); have p0 := (hSw.cell (World.block_lt_of_cell? _ _ q0)).trans q0; have p1 := (hSw.cell (World.block_lt_of_cell? _ _ q1)).trans q1; have p2 := (hSw.cell (World.block_lt_of_cell? _ _ q2)).trans q2; go_simp <;> with_reducible rfl)
  try simp only [Act.put, List.setIfInBounds_toArray, List.set_cons_zero, List.set_cons_succ]
  refine wpAnyH_ready (rs := [4]) (by kernel_rfl) (by simp) ?_
  refine AllReadyH.cons (o := { dst := some 78, op := Go.Op.buildSlice 24 2 #[(0, Go.Operand.tmp 74), (1, Go.Operand.tmp 77)], type := 24, pos := "ref.go:46", after := #[{ on := 0, ground := Go.Ground.data }, { on := 3, ground := Go.Ground.data }], guard := none }) rfl (fun K hK => ?_) AllReadyH.nil
  go_simp
  have hBb := hBL; have hB2 := hBL.below' (bel_alloc (Below.refl _ _) (.cells #[.int .i64 (24), .int .i64 (a)] 2)); clear hBL; have hBL := hB2; clear hB2
  refine hK.out _ _ ?_ (fun hHeld2 => ?_)
  · first | exact hZ | exact hBL.1
  clear hK K hHeld
  have hHeld := hHeld2
  clear hHeld2
  try simp only [Act.put, List.setIfInBounds_toArray, List.set_cons_zero, List.set_cons_succ]
  refine wpAnyH_take (i := 10) (oi := { dst := some 84, op := Go.Op.build 77 #[(1, Go.Operand.tmp 78), (3, Go.Operand.tmp 81), (4, Go.Operand.tmp 83)], type := 77, pos := "ref.go:46", after := #[{ on := 4, ground := Go.Ground.data }, { on := 7, ground := Go.Ground.data }, { on := 9, ground := Go.Ground.data }], guard := none }) (v := ?v10) rfl (by kernel_rfl) (by kernel_rfl) (by kernel_rfl) (fun _ _ _ h => h) (Or.inl ⟨by rfl, ?hy10⟩) (by assumption) ?rest10
  case hy10 => (intro w hSw; (try dsimp only at hSw); have p0 := (hSw.cell (World.block_lt_of_cell? _ _ q0)).trans q0; have p1 := (hSw.cell (World.block_lt_of_cell? _ _ q1)).trans q1; have p2 := (hSw.cell (World.block_lt_of_cell? _ _ q2)).trans q2; go_simp <;> with_reducible rfl)
  try simp only [Act.put, List.setIfInBounds_toArray, List.set_cons_zero, List.set_cons_succ]
  refine wpAnyH_ready (rs := [11]) (by kernel_rfl) (by simp) ?_
  refine AllReadyH.cons (o := { dst := none, op := Go.Op.store 77 (Go.Operand.tmp 6) (Go.Operand.tmp 84), type := 0, pos := "ref.go:46", after := #[{ on := 10, ground := Go.Ground.data }, { on := 0, ground := Go.Ground.phase }, { on := 1, ground := Go.Ground.phase }, { on := 2, ground := Go.Ground.phase }, { on := 3, ground := Go.Ground.phase }, { on := 4, ground := Go.Ground.phase }, { on := 5, ground := Go.Ground.phase }, { on := 6, ground := Go.Ground.phase }, { on := 7, ground := Go.Ground.phase }, { on := 8, ground := Go.Ground.phase }, { on := 9, ground := Go.Ground.phase }, { on := 10, ground := Go.Ground.phase }], guard := none }) rfl (fun K hK => ?_) AllReadyH.nil
  obtain ⟨y0, y1, y2, y3, y4, s5, s6, s7, s8, s9, -⟩ := (show Blk _ w.heap.size _ _ from hBn.2.1.alloc (.cells #[.int .i64 (24), .int .i64 (a)] 2)).five; go_simp; have hf := And.intro (Blk.drew (madeCells [24, a] b h16 hBn.1 (Nat.le_refl _) hBn.2.1).1) (madeCells [24, a] b h16 hBn.1 (Nat.le_refl _) hBn.2.1).2.drew; obtain ⟨_, _, _, _, _, _, hZ⟩ := hf.2
  refine hK.out _ _ ?_ (fun hHeld2 => ?_)
  · first | exact hZ | exact hBL.1
  clear hK K hHeld
  have hHeld := hHeld2
  clear hHeld2
  try simp only [Act.put, List.setIfInBounds_toArray, List.set_cons_zero, List.set_cons_succ]
  refine wpAnyH_done (by kernel_rfl) ?_ _
  refine NoPanic.normal ?_
  go_wp2
  refine ret_blk (v := ?vv) w.heap.size _ 77 hf.1 ?res rfl ?post
  case post => exact hf.2
  case res => exact (fun w' h => by obtain ⟨e1, e2, e3, e4, e5, -⟩ := h.five; simp [results, Try.results37, go_sem, e1, e2, e3, e4, e5])
  
set_option maxRecDepth 100000 in
set_option maxHeartbeats 1000000 in
theorem rMd7 (w : World) (here : Int) (hh : 1536 ≤ here ∧ here ≤ 5632) (a b : Int) (al : Option Addr) (nl cl0 : Nat) (hl : Rv w 1 (.slice al 1 cl0) 1 (ic [a])) :
    Calls Try.prog 37 #[.string ⟨#[65, 71, 65, 73, 78]⟩, .int .i64 here, .slice al 1 cl0] w fun e w' => MadeQ w w' [24, a] [] 0 0 e := by
  obtain ⟨ad, rfl, q0⟩ : ∃ ad, al = some ad ∧ w.cell? ad = some (.int .i64 a) := by
    rcases hl.2.2 with ⟨e, e2⟩ | ⟨a', c, e, h5⟩
    · cases e2
    · cases e; exact ⟨a', rfl, (by have := h5 0 _ rfl; rwa [add_zeroC] at this)⟩
  obtain ⟨h8, hh8⟩ : ∃ h8, h8 = here + 8 := ⟨_, rfl⟩
  have w8 : IntKind.i64.wrap (here + 8) = h8 := by rw [hh8, IntKind.wrap_i64]; omega
  obtain ⟨h16, hh16⟩ : ∃ h16, h16 = here + 16 := ⟨_, rfl⟩
  have w16 : IntKind.i64.wrap (here + 16) = h16 := by rw [hh16, IntKind.wrap_i64]; omega
  have x4 := Lib.hid (rXtE 4 32 (by omega) (by omega))
  have x3 := Lib.hid (rXtE 3 24 (by omega) (by omega))
  have hBL : BelQ w (w.alloc (.cells #[.string ⟨#[]⟩, .slice none 0 0, .slice none 0 0, .int .i64 0, .int .i64 0] 77)) w.heap.size #[.string ⟨#[]⟩, .slice none 0 0, .slice none 0 0, .int .i64 0, .int .i64 0] := BelQ.start w
  clear hh hh8 hh16
  go_enter Try.func37, Try.ntmps37
  obtain ⟨y0, y1, y2, y3, y4, -⟩ := hBL.2.1.five
  go_wp2_with (first
    | (go_at_call_of 67 (4 : Int); refine (x4.out _).mono ?_; rintro e w1 ⟨rfl, hbx⟩; have hP := hBL.below' hbx; clear hBL; have hBL := hP; clear hP; clear hbx; obtain ⟨y0, y1, y2, y3, y4, -⟩ := hBL.2.1.five; have p0 := hBL.2.2 _ _ q0)
    | (go_at_call_of 67 (3 : Int); refine (x3.out _).mono ?_; rintro e w2 ⟨rfl, hbx⟩; have hP := hBL.below' hbx; clear hBL; have hBL := hP; clear hP; clear hbx; obtain ⟨y0, y1, y2, y3, y4, -⟩ := hBL.2.1.five; have p0 := hBL.2.2 _ _ q0; have hBX := hBL.below' (bel_alloc (Below.refl _ _) (.cells #[.int .i64 (24), .int .i64 (a)] 2)); obtain ⟨s0, s1, s2, s3, s4, s5, s6, s7, s8, s9, -⟩ := (show Blk _ w.heap.size _ _ from hBX.2.1).five; have r0 := hBX.2.2 _ _ q0; clear hBX))
  have hf := madeCells [24, a] 0 0 hBL.1 (Nat.le_refl _) hBL.2.1
  refine ret_blk (v := ?vv) w.heap.size _ 77 hf.1 ?res rfl ?post
  case post => exact hf.2
  case res => exact (fun w' h => by obtain ⟨e1, e2, e3, e4, e5, -⟩ := h.five; simp [results, Try.results37, go_sem, e1, e2, e3, e4, e5])
set_option maxRecDepth 100000 in
set_option maxHeartbeats 1000000 in
theorem rMd8 (w : World) (here : Int) (hh : 1536 ≤ here ∧ here ≤ 5632) (a b : Int) (al : Option Addr) (nl cl0 : Nat) :
    Calls Try.prog 37 #[.string ⟨#[68, 79]⟩, .int .i64 here, .slice al nl cl0] w fun e w' => MadeQ w w' [40] [here + 8] 0 0 e := by
  obtain ⟨h8, hh8⟩ : ∃ h8, h8 = here + 8 := ⟨_, rfl⟩
  have w8 : IntKind.i64.wrap (here + 8) = h8 := by rw [hh8, IntKind.wrap_i64]; omega
  obtain ⟨h16, hh16⟩ : ∃ h16, h16 = here + 16 := ⟨_, rfl⟩
  have w16 : IntKind.i64.wrap (here + 16) = h16 := by rw [hh16, IntKind.wrap_i64]; omega
  rw [← hh8]
  have x4 := Lib.hid (rXtE 4 32 (by omega) (by omega))
  have x3 := Lib.hid (rXtE 3 24 (by omega) (by omega))
  have x5 := Lib.hid (rXtE 5 40 (by omega) (by omega))
  have hBL : BelQ w (w.alloc (.cells #[.string ⟨#[]⟩, .slice none 0 0, .slice none 0 0, .int .i64 0, .int .i64 0] 77)) w.heap.size #[.string ⟨#[]⟩, .slice none 0 0, .slice none 0 0, .int .i64 0, .int .i64 0] := BelQ.start w
  clear hh hh8 hh16
  go_enter Try.func37, Try.ntmps37
  obtain ⟨y0, y1, y2, y3, y4, -⟩ := hBL.2.1.five
  go_wp2_with (first
    | (go_at_call_of 67 (4 : Int); refine (x4.out _).mono ?_; rintro e w1 ⟨rfl, hbx⟩; have hP := hBL.below' hbx; clear hBL; have hBL := hP; clear hP; clear hbx; obtain ⟨y0, y1, y2, y3, y4, -⟩ := hBL.2.1.five)
    | (go_at_call_of 67 (3 : Int); refine (x3.out _).mono ?_; rintro e w2 ⟨rfl, hbx⟩; have hP := hBL.below' hbx; clear hBL; have hBL := hP; clear hP; clear hbx; obtain ⟨y0, y1, y2, y3, y4, -⟩ := hBL.2.1.five)
    | (go_at_call_of 67 (5 : Int); refine (x5.out _).mono ?_; rintro e w3 ⟨rfl, hbx⟩; have hP := hBL.below' hbx; clear hBL; have hBL := hP; clear hP; clear hbx; obtain ⟨y0, y1, y2, y3, y4, -⟩ := hBL.2.1.five; have hBX := (hBL.below' (bel_alloc (Below.refl _ _) (.cells #[.int .i64 (40)] 2))).below' (bel_alloc (Below.refl _ _) (.cells #[.int .i64 (h8)] 2)); obtain ⟨s0, s1, s2, s3, s4, s5, s6, s7, s8, s9, -⟩ := (show Blk _ w.heap.size _ _ from hBX.2.1).five; clear hBX))
  have hf := madeBoth [40] [h8] 0 0 hBL.1 (Nat.le_refl _) hBL.2.1
  refine ret_blk (v := ?vv) w.heap.size _ 77 hf.1 ?res rfl ?post
  case post => exact hf.2
  case res => exact (fun w' h => by obtain ⟨e1, e2, e3, e4, e5, -⟩ := h.five; simp [results, Try.results37, go_sem, e1, e2, e3, e4, e5])
set_option maxRecDepth 100000 in
set_option maxHeartbeats 1000000 in
theorem rMd9 (w : World) (here : Int) (hh : 1536 ≤ here ∧ here ≤ 5632) (a b : Int) (al : Option Addr) (nl cl0 : Nat) (hl : Rv w 1 (.slice al 1 cl0) 1 (ic [a])) :
    Calls Try.prog 37 #[.string ⟨#[76, 79, 79, 80]⟩, .int .i64 here, .slice al 1 cl0] w fun e w' => MadeQ w w' [48, a] [] 0 0 e := by
  obtain ⟨ad, rfl, q0⟩ : ∃ ad, al = some ad ∧ w.cell? ad = some (.int .i64 a) := by
    rcases hl.2.2 with ⟨e, e2⟩ | ⟨a', c, e, h5⟩
    · cases e2
    · cases e; exact ⟨a', rfl, (by have := h5 0 _ rfl; rwa [add_zeroC] at this)⟩
  obtain ⟨h8, hh8⟩ : ∃ h8, h8 = here + 8 := ⟨_, rfl⟩
  have w8 : IntKind.i64.wrap (here + 8) = h8 := by rw [hh8, IntKind.wrap_i64]; omega
  obtain ⟨h16, hh16⟩ : ∃ h16, h16 = here + 16 := ⟨_, rfl⟩
  have w16 : IntKind.i64.wrap (here + 16) = h16 := by rw [hh16, IntKind.wrap_i64]; omega
  have x4 := Lib.hid (rXtE 4 32 (by omega) (by omega))
  have x3 := Lib.hid (rXtE 3 24 (by omega) (by omega))
  have x5 := Lib.hid (rXtE 6 48 (by omega) (by omega))
  have hBL : BelQ w (w.alloc (.cells #[.string ⟨#[]⟩, .slice none 0 0, .slice none 0 0, .int .i64 0, .int .i64 0] 77)) w.heap.size #[.string ⟨#[]⟩, .slice none 0 0, .slice none 0 0, .int .i64 0, .int .i64 0] := BelQ.start w
  clear hh hh8 hh16
  go_enter Try.func37, Try.ntmps37
  obtain ⟨y0, y1, y2, y3, y4, -⟩ := hBL.2.1.five
  go_upto_region 22 with (first
    | (go_at_call_of 67 (4 : Int); refine (x4.out _).mono ?_; rintro e w1 ⟨rfl, hbx⟩; have hP := hBL.below' hbx; clear hBL; have hBL := hP; clear hP; clear hbx; obtain ⟨y0, y1, y2, y3, y4, -⟩ := hBL.2.1.five; have p0 := hBL.2.2 _ _ q0)
    | (go_at_call_of 67 (3 : Int); refine (x3.out _).mono ?_; rintro e w2 ⟨rfl, hbx⟩; have hP := hBL.below' hbx; clear hBL; have hBL := hP; clear hP; clear hbx; obtain ⟨y0, y1, y2, y3, y4, -⟩ := hBL.2.1.five; have p0 := hBL.2.2 _ _ q0))
  have hBn := hBL
  have hD := hBL.below' (bel_drew (Below.refl _ _))
  clear hBL y0 y1 y2 y3 y4
  have hBL := hD
  clear hD
  refine wp_region_noPanic ?_
  refine wp_region_held_drew (S := (fun w9 => Below w.heap.size w w9)) (by kernel_rfl) ?_ (fun hHeld => ?_)
  · first | exact hZ | exact hBL.1
  refine wpAnyH_take (i := 1) (oi := { dst := some 96, op := Go.Op.move (Go.Operand.tmp 2), type := 24, pos := "ref.go:50", after := #[], guard := none }) (v := ?v11) rfl (by kernel_rfl) (by kernel_rfl) (by kernel_rfl) (fun _ _ _ h => h) (Or.inl ⟨by rfl, ?hy11⟩) (by assumption) ?rest11
  case hy11 => (intro w hSw; (try dsimp only at hSw); have p0 := (hSw.cell (World.block_lt_of_cell? _ _ q0)).trans q0; go_simp <;> with_reducible rfl)
  try simp only [Act.put, List.setIfInBounds_toArray, List.set_cons_zero, List.set_cons_succ]
  refine wpAnyH_take (i := 2) (oi := { dst := some 97, op := Go.Op.indexAddr 24 (Go.Operand.tmp 96) (Go.Operand.const (Go.Value.int Go.IntKind.i64 0)), type := 0, pos := "ref.go:50", after := #[{ on := 1, ground := Go.Ground.data }], guard := none }) (v := ?v12) rfl (by kernel_rfl) (by kernel_rfl) (by kernel_rfl) (fun _ _ _ h => h) (Or.inl ⟨by rfl, ?hy12⟩) (by assumption) ?rest12
  case hy12 => (intro w hSw; (try dsimp only at hSw); have p0 := (hSw.cell (World.block_lt_of_cell? _ _ q0)).trans q0; go_simp <;> with_reducible rfl)
  try simp only [Act.put, List.setIfInBounds_toArray, List.set_cons_zero, List.set_cons_succ]
  refine wpAnyH_take (i := 3) (oi := { dst := some 98, op := Go.Op.load 2 (Go.Operand.tmp 97), type := 2, pos := "ref.go:50", after := #[{ on := 2, ground := Go.Ground.data }], guard := none }) (v := ?v13) rfl (by kernel_rfl) (by kernel_rfl) (by kernel_rfl) (fun _ _ _ h => h) (Or.inl ⟨by rfl, ?hy13⟩) (by assumption) ?rest13
  case hy13 => (intro w hSw; (try dsimp only at hSw); have p0 := (hSw.cell (World.block_lt_of_cell? _ _ q0)).trans q0; go_simp <;> with_reducible rfl)
  try simp only [Act.put, List.setIfInBounds_toArray, List.set_cons_zero, List.set_cons_succ]
  refine wpAnyH_ready (rs := [0]) (by kernel_rfl) (by simp) ?_
  refine AllReadyH.cons (o := { dst := some 95, op := Go.Op.call { callee := Go.Callee.value (Go.Operand.func 67), args := #[Go.Operand.const (Go.Value.int Go.IntKind.i64 6)], argTypes := #[3] }, type := 2, pos := "ref.go:50", after := #[], guard := none }) rfl (fun K hK => ?_) AllReadyH.nil
  go_simp
  go_at_call 67; refine (x5.out _).mono ?_; rintro e w3 ⟨rfl, hbx⟩; have hP := hBL.below' hbx; clear hBL; have hBL := hP; clear hP; clear hbx
  refine hK.out _ _ ?_ (fun hHeld2 => ?_)
  · first | exact hZ | exact hBL.1
  clear hK K hHeld
  have hHeld := hHeld2
  clear hHeld2
  try simp only [Act.put, List.setIfInBounds_toArray, List.set_cons_zero, List.set_cons_succ]
  refine wpAnyH_ready (rs := [4]) (by kernel_rfl) (by simp) ?_
  refine AllReadyH.cons (o := { dst := some 99, op := Go.Op.buildSlice 24 2 #[(0, Go.Operand.tmp 95), (1, Go.Operand.tmp 98)], type := 24, pos := "ref.go:50", after := #[{ on := 0, ground := Go.Ground.data }, { on := 3, ground := Go.Ground.data }], guard := none }) rfl (fun K hK => ?_) AllReadyH.nil
  go_simp
  have hBb := hBL; have hB2 := hBL.below' (bel_alloc (Below.refl _ _) (.cells #[.int .i64 (48), .int .i64 (a)] 2)); clear hBL; have hBL := hB2; clear hB2
  refine hK.out _ _ ?_ (fun hHeld2 => ?_)
  · first | exact hZ | exact hBL.1
  clear hK K hHeld
  have hHeld := hHeld2
  clear hHeld2
  try simp only [Act.put, List.setIfInBounds_toArray, List.set_cons_zero, List.set_cons_succ]
  refine wpAnyH_take (i := 5) (oi := { dst := some 100, op := Go.Op.build 77 #[(1, Go.Operand.tmp 99)], type := 77, pos := "ref.go:50", after := #[{ on := 4, ground := Go.Ground.data }], guard := none }) (v := ?v14) rfl (by kernel_rfl) (by kernel_rfl) (by kernel_rfl) (fun _ _ _ h => h) (Or.inl ⟨by rfl, ?hy14⟩) (by assumption) ?rest14
  case hy14 => (intro w hSw; (try dsimp only at hSw); have p0 := (hSw.cell (World.block_lt_of_cell? _ _ q0)).trans q0; go_simp <;> with_reducible rfl)
  try simp only [Act.put, List.setIfInBounds_toArray, List.set_cons_zero, List.set_cons_succ]
  refine wpAnyH_ready (rs := [6]) (by kernel_rfl) (by simp) ?_
  refine AllReadyH.cons (o := { dst := none, op := Go.Op.store 77 (Go.Operand.tmp 6) (Go.Operand.tmp 100), type := 0, pos := "ref.go:50", after := #[{ on := 5, ground := Go.Ground.data }, { on := 0, ground := Go.Ground.chain }, { on := 0, ground := Go.Ground.phase }, { on := 1, ground := Go.Ground.phase }, { on := 2, ground := Go.Ground.phase }, { on := 3, ground := Go.Ground.phase }, { on := 4, ground := Go.Ground.phase }, { on := 5, ground := Go.Ground.phase }], guard := none }) rfl (fun K hK => ?_) AllReadyH.nil
  obtain ⟨y0, y1, y2, y3, y4, s5, s6, s7, s8, s9, -⟩ := (show Blk _ w.heap.size _ _ from hBL.2.1).five; go_simp; have hf := madeCells [48, a] 0 0 hBb.1 (Nat.le_refl _) hBb.2.1; obtain ⟨_, _, _, _, _, _, hZ⟩ := hf.2
  refine hK.out _ _ ?_ (fun hHeld2 => ?_)
  · first | exact hZ | exact hBL.1
  clear hK K hHeld
  have hHeld := hHeld2
  clear hHeld2
  try simp only [Act.put, List.setIfInBounds_toArray, List.set_cons_zero, List.set_cons_succ]
  refine wpAnyH_done (by kernel_rfl) ?_ _
  refine NoPanic.normal ?_
  go_wp2
  refine ret_blk (v := ?vv) w.heap.size _ 77 hf.1 ?res rfl ?post
  case post => exact hf.2
  case res => exact (fun w' h => by obtain ⟨e1, e2, e3, e4, e5, -⟩ := h.five; simp [results, Try.results37, go_sem, e1, e2, e3, e4, e5])
  
set_option maxRecDepth 100000 in
set_option maxHeartbeats 1000000 in
theorem rMd10 (w : World) (here : Int) (hh : 1536 ≤ here ∧ here ≤ 5632) (a b : Int) (al : Option Addr) (nl cl0 : Nat) (hl : Rv w 1 (.slice al 1 cl0) 1 (ic [a])) :
    Calls Try.prog 37 #[.string ⟨#[43, 76, 79, 79, 80]⟩, .int .i64 here, .slice al 1 cl0] w fun e w' => MadeQ w w' [56, a] [] 0 0 e := by
  obtain ⟨ad, rfl, q0⟩ : ∃ ad, al = some ad ∧ w.cell? ad = some (.int .i64 a) := by
    rcases hl.2.2 with ⟨e, e2⟩ | ⟨a', c, e, h5⟩
    · cases e2
    · cases e; exact ⟨a', rfl, (by have := h5 0 _ rfl; rwa [add_zeroC] at this)⟩
  obtain ⟨h8, hh8⟩ : ∃ h8, h8 = here + 8 := ⟨_, rfl⟩
  have w8 : IntKind.i64.wrap (here + 8) = h8 := by rw [hh8, IntKind.wrap_i64]; omega
  obtain ⟨h16, hh16⟩ : ∃ h16, h16 = here + 16 := ⟨_, rfl⟩
  have w16 : IntKind.i64.wrap (here + 16) = h16 := by rw [hh16, IntKind.wrap_i64]; omega
  have x4 := Lib.hid (rXtE 4 32 (by omega) (by omega))
  have x3 := Lib.hid (rXtE 3 24 (by omega) (by omega))
  have x5 := Lib.hid (rXtE 7 56 (by omega) (by omega))
  have hBL : BelQ w (w.alloc (.cells #[.string ⟨#[]⟩, .slice none 0 0, .slice none 0 0, .int .i64 0, .int .i64 0] 77)) w.heap.size #[.string ⟨#[]⟩, .slice none 0 0, .slice none 0 0, .int .i64 0, .int .i64 0] := BelQ.start w
  clear hh hh8 hh16
  go_enter Try.func37, Try.ntmps37
  obtain ⟨y0, y1, y2, y3, y4, -⟩ := hBL.2.1.five
  go_upto_region 23 with (first
    | (go_at_call_of 67 (4 : Int); refine (x4.out _).mono ?_; rintro e w1 ⟨rfl, hbx⟩; have hP := hBL.below' hbx; clear hBL; have hBL := hP; clear hP; clear hbx; obtain ⟨y0, y1, y2, y3, y4, -⟩ := hBL.2.1.five; have p0 := hBL.2.2 _ _ q0)
    | (go_at_call_of 67 (3 : Int); refine (x3.out _).mono ?_; rintro e w2 ⟨rfl, hbx⟩; have hP := hBL.below' hbx; clear hBL; have hBL := hP; clear hP; clear hbx; obtain ⟨y0, y1, y2, y3, y4, -⟩ := hBL.2.1.five; have p0 := hBL.2.2 _ _ q0))
  have hBn := hBL
  have hD := hBL.below' (bel_drew (Below.refl _ _))
  clear hBL y0 y1 y2 y3 y4
  have hBL := hD
  clear hD
  refine wp_region_noPanic ?_
  refine wp_region_held_drew (S := (fun w9 => Below w.heap.size w w9)) (by kernel_rfl) ?_ (fun hHeld => ?_)
  · first | exact hZ | exact hBL.1
  refine wpAnyH_take (i := 1) (oi := { dst := some 102, op := Go.Op.move (Go.Operand.tmp 2), type := 24, pos := "ref.go:52", after := #[], guard := none }) (v := ?v15) rfl (by kernel_rfl) (by kernel_rfl) (by kernel_rfl) (fun _ _ _ h => h) (Or.inl ⟨by rfl, ?hy15⟩) (by assumption) ?rest15
  case hy15 => (intro w hSw; (try dsimp only at hSw); have p0 := (hSw.cell (World.block_lt_of_cell? _ _ q0)).trans q0; go_simp <;> with_reducible rfl)
  try simp only [Act.put, List.setIfInBounds_toArray, List.set_cons_zero, List.set_cons_succ]
  refine wpAnyH_take (i := 2) (oi := { dst := some 103, op := Go.Op.indexAddr 24 (Go.Operand.tmp 102) (Go.Operand.const (Go.Value.int Go.IntKind.i64 0)), type := 0, pos := "ref.go:52", after := #[{ on := 1, ground := Go.Ground.data }], guard := none }) (v := ?v16) rfl (by kernel_rfl) (by kernel_rfl) (by kernel_rfl) (fun _ _ _ h => h) (Or.inl ⟨by rfl, ?hy16⟩) (by assumption) ?rest16
  case hy16 => (intro w hSw; (try dsimp only at hSw); have p0 := (hSw.cell (World.block_lt_of_cell? _ _ q0)).trans q0; go_simp <;> with_reducible rfl)
  try simp only [Act.put, List.setIfInBounds_toArray, List.set_cons_zero, List.set_cons_succ]
  refine wpAnyH_take (i := 3) (oi := { dst := some 104, op := Go.Op.load 2 (Go.Operand.tmp 103), type := 2, pos := "ref.go:52", after := #[{ on := 2, ground := Go.Ground.data }], guard := none }) (v := ?v17) rfl (by kernel_rfl) (by kernel_rfl) (by kernel_rfl) (fun _ _ _ h => h) (Or.inl ⟨by rfl, ?hy17⟩) (by assumption) ?rest17
  case hy17 => (intro w hSw; (try dsimp only at hSw); have p0 := (hSw.cell (World.block_lt_of_cell? _ _ q0)).trans q0; go_simp <;> with_reducible rfl)
  try simp only [Act.put, List.setIfInBounds_toArray, List.set_cons_zero, List.set_cons_succ]
  refine wpAnyH_ready (rs := [0]) (by kernel_rfl) (by simp) ?_
  refine AllReadyH.cons (o := { dst := some 101, op := Go.Op.call { callee := Go.Callee.value (Go.Operand.func 67), args := #[Go.Operand.const (Go.Value.int Go.IntKind.i64 7)], argTypes := #[3] }, type := 2, pos := "ref.go:52", after := #[], guard := none }) rfl (fun K hK => ?_) AllReadyH.nil
  go_simp
  go_at_call 67; refine (x5.out _).mono ?_; rintro e w3 ⟨rfl, hbx⟩; have hP := hBL.below' hbx; clear hBL; have hBL := hP; clear hP; clear hbx
  refine hK.out _ _ ?_ (fun hHeld2 => ?_)
  · first | exact hZ | exact hBL.1
  clear hK K hHeld
  have hHeld := hHeld2
  clear hHeld2
  try simp only [Act.put, List.setIfInBounds_toArray, List.set_cons_zero, List.set_cons_succ]
  refine wpAnyH_ready (rs := [4]) (by kernel_rfl) (by simp) ?_
  refine AllReadyH.cons (o := { dst := some 105, op := Go.Op.buildSlice 24 2 #[(0, Go.Operand.tmp 101), (1, Go.Operand.tmp 104)], type := 24, pos := "ref.go:52", after := #[{ on := 0, ground := Go.Ground.data }, { on := 3, ground := Go.Ground.data }], guard := none }) rfl (fun K hK => ?_) AllReadyH.nil
  go_simp
  have hBb := hBL; have hB2 := hBL.below' (bel_alloc (Below.refl _ _) (.cells #[.int .i64 (56), .int .i64 (a)] 2)); clear hBL; have hBL := hB2; clear hB2
  refine hK.out _ _ ?_ (fun hHeld2 => ?_)
  · first | exact hZ | exact hBL.1
  clear hK K hHeld
  have hHeld := hHeld2
  clear hHeld2
  try simp only [Act.put, List.setIfInBounds_toArray, List.set_cons_zero, List.set_cons_succ]
  refine wpAnyH_take (i := 5) (oi := { dst := some 106, op := Go.Op.build 77 #[(1, Go.Operand.tmp 105)], type := 77, pos := "ref.go:52", after := #[{ on := 4, ground := Go.Ground.data }], guard := none }) (v := ?v18) rfl (by kernel_rfl) (by kernel_rfl) (by kernel_rfl) (fun _ _ _ h => h) (Or.inl ⟨by rfl, ?hy18⟩) (by assumption) ?rest18
  case hy18 => (intro w hSw; (try dsimp only at hSw); have p0 := (hSw.cell (World.block_lt_of_cell? _ _ q0)).trans q0; go_simp <;> with_reducible rfl)
  try simp only [Act.put, List.setIfInBounds_toArray, List.set_cons_zero, List.set_cons_succ]
  refine wpAnyH_ready (rs := [6]) (by kernel_rfl) (by simp) ?_
  refine AllReadyH.cons (o := { dst := none, op := Go.Op.store 77 (Go.Operand.tmp 6) (Go.Operand.tmp 106), type := 0, pos := "ref.go:52", after := #[{ on := 5, ground := Go.Ground.data }, { on := 0, ground := Go.Ground.chain }, { on := 0, ground := Go.Ground.phase }, { on := 1, ground := Go.Ground.phase }, { on := 2, ground := Go.Ground.phase }, { on := 3, ground := Go.Ground.phase }, { on := 4, ground := Go.Ground.phase }, { on := 5, ground := Go.Ground.phase }], guard := none }) rfl (fun K hK => ?_) AllReadyH.nil
  obtain ⟨y0, y1, y2, y3, y4, s5, s6, s7, s8, s9, -⟩ := (show Blk _ w.heap.size _ _ from hBL.2.1).five; go_simp; have hf := madeCells [56, a] 0 0 hBb.1 (Nat.le_refl _) hBb.2.1; obtain ⟨_, _, _, _, _, _, hZ⟩ := hf.2
  refine hK.out _ _ ?_ (fun hHeld2 => ?_)
  · first | exact hZ | exact hBL.1
  clear hK K hHeld
  have hHeld := hHeld2
  clear hHeld2
  try simp only [Act.put, List.setIfInBounds_toArray, List.set_cons_zero, List.set_cons_succ]
  refine wpAnyH_done (by kernel_rfl) ?_ _
  refine NoPanic.normal ?_
  go_wp2
  refine ret_blk (v := ?vv) w.heap.size _ 77 hf.1 ?res rfl ?post
  case post => exact hf.2
  case res => exact (fun w' h => by obtain ⟨e1, e2, e3, e4, e5, -⟩ := h.five; simp [results, Try.results37, go_sem, e1, e2, e3, e4, e5])
  
end Go.Proofs.Ytkcmphjgflbchaa

/- The reference's 'made', one theorem over the words. -/
namespace Go.Proofs.Ytkcmphjgflbchaa
open Go.RowKit
set_option linter.unusedVariables false
set_option linter.unusedSimpArgs false

/-- The addresses handed to 'made', in the reference's order. -/
def adK (k : Nat) (a b : Int) : List Int := if noT k then [] else if k = 6 then [b, a] else [a]
theorem rMd (w : World) (here : Int) (hh : 1536 ≤ here ∧ here ≤ 5632) (a b : Int) (al : Option Addr) (n cl0 : Nat) (k : Nat) (hk : k ≤ 10) (hn : n = (adK k a b).length) (hl : Rv w 1 (.slice al n cl0) n (ic (adK k a b))) :
    Calls Try.prog 37 #[.string (nmC k), .int .i64 here, .slice al n cl0] w fun e w' => MadeQ w w' (ctP here a b k).cells (ctP here a b k).lays (ctP here a b k).hole (ctP here a b k).tgt e := by
  have c1 : ∀ k, noT k = false → k ≠ 6 → adK k a b = [a] := fun k h h6 => by unfold adK; rw [h, if_neg (by decide), if_neg h6]
  have c6 : adK 6 a b = [b, a] := by unfold adK; rw [if_neg (by decide), if_pos rfl]
  match k, hk with
  | 0, _ => exact rMd0 w here hh a b al n cl0
  | 1, _ => rw [c1 1 rfl (by decide)] at hn hl; subst hn; exact rMd1 w here hh a b al 0 cl0 hl
  | 2, _ => rw [c1 2 rfl (by decide)] at hn hl; subst hn; exact rMd2 w here hh a b al 0 cl0 hl
  | 3, _ => exact rMd3 w here hh a b al n cl0
  | 4, _ => rw [c1 4 rfl (by decide)] at hn hl; subst hn; exact rMd4 w here hh a b al 0 cl0 hl
  | 5, _ => rw [c1 5 rfl (by decide)] at hn hl; subst hn; exact rMd5 w here hh a b al 0 cl0 hl
  | 6, _ => rw [c6] at hn hl; subst hn; exact rMd6 w here hh a b al 0 cl0 hl
  | 7, _ => rw [c1 7 rfl (by decide)] at hn hl; subst hn; exact rMd7 w here hh a b al 0 cl0 hl
  | 8, _ => exact rMd8 w here hh a b al n cl0
  | 9, _ => rw [c1 9 rfl (by decide)] at hn hl; subst hn; exact rMd9 w here hh a b al 0 cl0 hl
  | 10, _ => rw [c1 10 rfl (by decide)] at hn hl; subst hn; exact rMd10 w here hh a b al 0 cl0 hl
end Go.Proofs.Ytkcmphjgflbchaa

/- The reference's loop over what a word takes, in plain words. -/
namespace Go.Proofs.Ytkcmphjgflbchaa
open Go.RowKit
set_option linter.unusedVariables false
set_option linter.unusedSimpArgs false

/-- What the reference finds bad in the address at depth i. -/
def badR (M : List UInt8) (here i : Int) (h : Bool) : Prop := peekV M 32 256 512 i % 8 ≠ 0 ∨ peekV M 32 256 512 i < 1536 ∨ here < peekV M 32 256 512 i ∨ (h = true ∧ here - 8 < peekV M 32 256 512 i)
instance (M : List UInt8) (here i : Int) (h : Bool) : Decidable (badR M here i h) := by unfold badR; infer_instance
theorem badR_iff (M : List UInt8) (here i : Int) (h : Bool) : badR M here i h ↔ ¬ (peekV M 32 256 512 i % 8 = 0 ∧ 1536 ≤ peekV M 32 256 512 i ∧ peekV M 32 256 512 i ≤ here - (if h then 8 else 0)) := by
  unfold badR
  generalize peekV M 32 256 512 i = p
  cases h
  · simp only [Bool.false_eq_true, if_false, false_and, or_false]
    omega
  · simp only [if_true, true_and]
    omega
theorem takeT_bad (M : List UInt8) (here i : Int) (h : Bool) (hi : 0 ≤ i ∧ i < depL M 32 256 512) : takeT M here i (if h then 8 else 0) = if badR M here i h then -22 else 0 := by
  unfold takeT
  rw [if_pos hi]
  by_cases c : badR M here i h
  · rw [if_pos c, if_neg ((badR_iff M here i h).1 c)]
  · rw [if_neg c, if_pos (Decidable.not_not.1 (fun q => c ((badR_iff M here i h).2 q)))]
def holeK (k : Nat) : Bool := decide (k = 1 ∨ k = 2)
/-- What the reference's loop throws. -/
def loopE (M : List UInt8) (here : Int) (k : Nat) : Int := if noT k then 0 else if k = 6 then (if badR M here 1 true then -22 else if badR M here 0 false then -22 else 0) else (if badR M here 0 (holeK k) then -22 else 0)
theorem take_low (M : List UInt8) (here i r : Int) (h : ¬ i < depL M 32 256 512) : takeT M here i r = -4 := by
  unfold takeT
  rw [if_neg (by omega)]
theorem ctE_loop (M : List UInt8) (here : Int) (k : Nat) (hd : 0 ≤ depL M 32 256 512) : ctE M here k = if noT k then 0 else if depL M 32 256 512 < (if k = 6 then 2 else 1) then -4 else loopE M here k := by
  unfold ctE loopE
  by_cases n : noT k = true
  · rw [if_pos n, if_pos n]
  · rw [if_neg n, if_neg n, if_neg n]
    by_cases s : k = 6
    · simp only [if_pos s]
      by_cases c : depL M 32 256 512 < 2
      · rw [if_pos c, if_pos c]
      · have t0 := takeT_bad M here 0 false (by omega)
        have t1 := takeT_bad M here 1 true (by omega)
        simp only [Bool.false_eq_true, if_false, if_true] at t0 t1
        rw [if_neg c, if_neg c, t0, t1]
        by_cases b0 : badR M here 0 false <;> by_cases b1 : badR M here 1 true <;> simp [b0, b1]
    · simp only [if_neg s]
      by_cases c : depL M 32 256 512 < 1
      · rw [if_pos c, take_low M here 0 _ (by omega)]
      · rw [if_neg c]
        have t0 := takeT_bad M here 0 (holeK k) (by omega)
        rw [← t0]
        unfold rmK holeK
        by_cases q : k = 1 ∨ k = 2
        · rw [if_pos q, if_pos (by simpa using q)]
        · rw [if_neg q, if_neg (by simpa using q)]
end Go.Proofs.Ytkcmphjgflbchaa

/- An iterator over a string in a walk of the reference's memory. -/
namespace Go.Proofs.Ytkcmphjgflbchaa
open Go.RowKit Go.Lib
set_option linter.unusedVariables false
set_option linter.unusedSimpArgs false

/-- The iterator over a string, that stands at 'pos'. -/
def Kp.it (k : Nat) (s : ByteArray) (pos : Nat) : Kp := ⟨fun j => j = k, fun w => w.heap[k]? = some (.stringIter s pos), fun w1 w2 h hs hp => by
  have := h k rfl (Array.getElem?_eq_some_iff.1 hp).1
  rw [this]; exact hp⟩
section
variable {W w : World} {B rb : Nat} {M : List UInt8} {O0 : Nat → Prop} {K : Kp}
theorem Onr.newIt (h : Onr W w B rb M O0 K) (s : ByteArray) : Onr W (w.iter s 0) B rb M O0 (K.and (.it w.heap.size s 0)) := by
  obtain ⟨O, h1, h2, h3, h4⟩ := h
  have hb : Below w.heap.size w (w.iter s 0) := bel_alloc (Below.refl _ _) _
  refine ⟨O, h1.below hb, h2.trans (Turn.of_below hb O), (h3.turn (Turn.of_below hb O)).and ⟨World.iter_heap w s 0, fun k hk => ?_⟩, h4⟩
  cases hk
  exact ⟨by simp [World.iter], fun hO => by have := (h1.lt hO).1; omega⟩
theorem Onr.itAt {k pos : Nat} {s : ByteArray} (h : Onr W w B rb M O0 (K.and (.it k s pos))) (hk : W.heap.size ≤ k) (hK : ¬ K.S k) (pos' : Nat) : Onr W (w.iterAt k s pos') B rb M O0 (K.and (.it k s pos')) := by
  obtain ⟨O, h1, h2, h3, h4⟩ := h
  have hO : ¬ O k := (h3.2 k (.inr rfl)).2
  have hg : w.grownBy (w.iterAt k s pos') (some k) := grownBy_putObj' w k (.stringIter s pos')
  have hit : w.heap[k]? = some (.stringIter s pos) := h3.right.1
  refine ⟨O, h1.kept hg (fun j e => by cases e; exact hO), h2.grownOwn hg (fun j e => by cases e; exact hk), (h3.left.grown hg (fun j e => by cases e; exact hK)).and ⟨iterAt_heap w k s pos pos' hit, fun j hj => ?_⟩, h4⟩
  cases hj
  exact ⟨Nat.lt_of_lt_of_le (Array.getElem?_eq_some_iff.1 hit).1 hg.size, hO⟩
end
end Go.Proofs.Ytkcmphjgflbchaa

/- The reference's Do: a word that is no control word; one whose takes are not there. -/
namespace Go.Proofs.Ytkcmphjgflbchaa
open Go.RowKit
set_option linter.unusedVariables false
set_option linter.unusedSimpArgs false
attribute [local go_sem] cell_set set_set m_undef
attribute [local irreducible] isC

theorem isC_iff (n : Int) : isC n = true ↔ 110 ≤ n ∧ n ≤ 120 := by unfold isC; simp
theorem rDo_no {w : World} {B rb : Nat} {M : List UInt8} {R : Nat → Prop} (h : RefP w B rb M R) (hB : B ≤ w.heap.size) (n : Int) (hn : isC n = false) :
    Calls Try.prog 13 #[.pointer (some ⟨rb, 0, none⟩), .int .i64 n] w fun e w' => RefQ w w' B rb M R (.int .i64 (-22)) e := by
  have hS := Onr.start h hB
  have hI := rIsC n
  rw [hn] at hI
  replace hI := Lib.hid hI
  clear hn h hB
  go_enter Try.func13, Try.ntmps13
  go_wp2_with (go_at_call 15; refine (hS.still (hI.out _)).mono ?_; rintro e w2 ⟨rfl, hS2⟩; clear hS; have hS := hS2; clear hS2)
  go_ret
  exact hS.refQ _
end Go.Proofs.Ytkcmphjgflbchaa

/- The reference's Do: what it takes is not there. -/
namespace Go.Proofs.Ytkcmphjgflbchaa
open Go.RowKit
set_option linter.unusedVariables false
set_option linter.unusedSimpArgs false
attribute [local go_sem] cell_set set_set m_undef

theorem Onr.newFive {W w : World} {B rb : Nat} {M : List UInt8} {O0 : Nat → Prop} {K : Kp} (h : Onr W w B rb M O0 K) (x0 x1 x2 x3 x4 : Value) (T : TypeId) (a b c d e : Value) :
    Onr W (fiveW (w.alloc (.cells #[x0, x1, x2, x3, x4] T)) w.heap.size a b c d e) B rb M O0 (K.and (.blk w.heap.size #[a, b, c, d, e] T)) := by
  have h1 := h.new #[x0, x1, x2, x3, x4] T
  have hs := h.size
  have nk : ¬ K.S w.heap.size := fun hk => by have := h.slt hk; omega
  exact ((((h1.set hs nk 0 a).set hs nk 1 b).set hs nk 2 c).set hs nk 3 d).set hs nk 4 e
set_option maxRecDepth 100000 in
set_option maxHeartbeats 1000000 in
theorem rDo_low {w : World} {B rb : Nat} {M : List UInt8} {R : Nat → Prop} (h : RefP w B rb M R) (hB : B ≤ w.heap.size) (n : Int) (hn : isC n = true) {nm s : ByteArray} {i1 i2 : Int} {b3 b4 : Bool}
    (hO : ∀ w : World, Calls Try.prog 32 #[.int .i64 n] w fun e w' => e = .returned (.tuple #[.agg #[.string nm, .int .i64 i1, .int .i64 i2, .bool b3, .bool b4], .bool true]) ∧ Below w.heap.size w w')
    (hT : ∀ w : World, Calls Try.prog 33 #[.string nm] w fun e w' => e = .returned (.string s) ∧ w = w') (hd : depL M 32 256 512 < (s.size : Int)) :
    Calls Try.prog 13 #[.pointer (some ⟨rb, 0, none⟩), .int .i64 n] w fun e w' => RefQ w w' B rb M R (.int .i64 (-4)) e := by
  have hS := Onr.start h hB
  have hI := rIsC n
  rw [hn] at hI
  replace hI := Lib.hid hI
  replace hO := Lib.hid hO
  replace hT := Lib.hid hT
  have hD := Lib.hid (fun (w9 : World) (O : Nat → Prop) (h : RefP w9 B rb M O) => rDepth h)
  generalize depL M 32 256 512 = d at *
  have t1 : (d < (s.size : Int)) = True := eq_true hd
  clear hn h hB hd
  go_enter Try.func13, Try.ntmps13
  go_wp2_with (first
    | (go_at_call 15; refine (hS.still (hI.out _)).mono ?_; rintro e w2 ⟨rfl, hS2⟩; clear hS; have hS := hS2; clear hS2)
    | (go_at_call 32; refine (hS.still (hO.out _)).mono ?_; rintro e w3 ⟨rfl, hS2⟩; clear hS; have hS := hS2; clear hS2)
    | (go_at_call 33; refine (hT.out _).mono ?_; rintro e w4 ⟨rfl, hw⟩; have hS2 := hS.new #[.string nm, .int .i64 i1, .int .i64 i2, .bool b3, .bool b4] 64; rw [hw] at hS2; clear hS; have hS := hS2; clear hS2 hw)
    | (go_at_call 34; refine (hS.read (fun O h => hD.out _ O h)).mono ?_; rintro e w5 ⟨rfl, hS2⟩; clear hS; have hS := hS2; clear hS2))
  go_ret
  exact hS.weak.refQ _
end Go.Proofs.Ytkcmphjgflbchaa

/- The reference's Do behind the depth test. -/
namespace Go.Proofs.Ytkcmphjgflbchaa
open Go.RowKit Go.Lib
set_option linter.unusedVariables false
set_option linter.unusedSimpArgs false
attribute [local go_sem] cell_set set_set m_undef

/-- The addresses that the reference reads. -/
def adL (M : List UInt8) (n k : Nat) : List Int := (List.range k).map fun (i : Nat) => peekV M 32 256 512 ((n : Int) - 1 - (i : Int))
theorem adL_succ (M : List UInt8) (n k : Nat) : adL M n (k + 1) = adL M n k ++ [peekV M 32 256 512 ((n : Int) - 1 - (k : Int))] := by simp [adL, List.range_succ]
theorem adL_len (M : List UInt8) (n k : Nat) : (adL M n k).length = k := by simp [adL]
def lnOf : Value → Nat
  | .slice _ n _ => n
  | _ => 0
/-- Whether the i-th character is an 'h'. -/
def isH (s : ByteArray) (i : Nat) : Bool := if h : i < s.size then decide (((s[i]'h).toNat : Int) = 104) else false
theorem isH_iff (s : ByteArray) (i : Nat) (h : i < s.size) : isH s i = true ↔ ((s[i]'h).toNat : Int) = 104 := by unfold isH; rw [dif_pos h]; exact decide_eq_true_iff
theorem good_next {s : ByteArray} {M : List UInt8} {here : Int} {k : Nat} (hg : ∀ i, i < k → ¬ badR M here ((s.size : Int) - 1 - (i : Int)) (isH s i)) (hk : ¬ badR M here ((s.size : Int) - 1 - (k : Int)) (isH s k)) : ∀ i, i < k + 1 → ¬ badR M here ((s.size : Int) - 1 - (i : Int)) (isH s i) := fun i hi => by
  rcases Nat.lt_or_ge i k with h | h
  · exact hg i h
  · have e : i = k := by omega
    subst e; exact hk
set_option maxRecDepth 100000 in
set_option maxHeartbeats 1000000 in
theorem rDo_bad {w : World} {B rb : Nat} {M : List UInt8} {R : Nat → Prop} (h : RefP w B rb M R) (hB : B ≤ w.heap.size) (n : Int) (hn : isC n = true) {nm s : ByteArray} {i1 i2 : Int} {b3 b4 : Bool}
    (hO : ∀ w : World, Calls Try.prog 32 #[.int .i64 n] w fun e w' => e = .returned (.tuple #[.agg #[.string nm, .int .i64 i1, .int .i64 i2, .bool b3, .bool b4], .bool true]) ∧ Below w.heap.size w w')
    (hT : ∀ w : World, Calls Try.prog 33 #[.string nm] w fun e w' => e = .returned (.string s) ∧ w = w') (hd : ¬ depL M 32 256 512 < (s.size : Int)) (hs2 : s.size ≤ 2) (ha : ∀ k (h : k < s.size), (s[k]'h).toNat < 128)
    (hbad : ∃ i, i < s.size ∧ badR M (hereL M) ((s.size : Int) - 1 - (i : Int)) (isH s i)) :
    Calls Try.prog 13 #[.pointer (some ⟨rb, 0, none⟩), .int .i64 n] w fun e w' => RefQ w w' B rb M R (.int .i64 (-22)) e := by
  have hS := Onr.start h hB
  have hI := rIsC n
  rw [hn] at hI
  replace hI := Lib.hid hI
  replace hO := Lib.hid hO
  replace hT := Lib.hid hT
  have hD := Lib.hid (fun (w9 : World) (O : Nat → Prop) (h : RefP w9 B rb M O) => rDepth h)
  have hHr := Lib.hid (fun (w9 : World) (O : Nat → Prop) (h : RefP w9 B rb M O) => rHere h)
  have hA := Lib.hid (fun (w9 : World) (O : Nat → Prop) (h : RefP w9 B rb M O) (n : Int) (hn : isI n) => rAt h n hn)
  generalize depL M 32 256 512 = d at *
  have hin := hereL_in M
  generalize hereL M = here at *
  have t1 : (d < (s.size : Int)) = False := eq_false hd
  replace hbad := Lib.hid hbad
  clear hn h hB hd
  go_enter Try.func13, Try.ntmps13
  go_upto_region 9 with (first
    | (go_at_call 15; refine (hS.still (hI.out _)).mono ?_; rintro e w2 ⟨rfl, hS2⟩; clear hS; have hS := hS2; clear hS2)
    | (go_at_call 32; refine (hS.still (hO.out _)).mono ?_; rintro e w3 ⟨rfl, hS2⟩; clear hS; have hS := hS2; clear hS2)
    | (go_at_call 33; refine (hT.out _).mono ?_; rintro e w4 ⟨rfl, hw⟩; have hS2 := hS.new #[.string nm, .int .i64 i1, .int .i64 i2, .bool b3, .bool b4] 64; rw [hw] at hS2; clear hS; have hS := hS2; clear hS2 hw)
    | (go_at_call 34; refine (hS.read (fun O h => hD.out _ O h)).mono ?_; rintro e w5 ⟨rfl, hS2⟩; clear hS; have hS := hS2; clear hS2)
    | (go_at_call 35; refine (hS.read (fun O h => hHr.out _ O h)).mono ?_; rintro e w6 ⟨rfl, hS2⟩; clear hS; have hS := hS2; clear hS2))
  have hN := hS.slt (.inr rfl)
  generalize w3.heap.size = N at *
  have hS3 := hS.newIt s
  have hDw := hS.size
  have hnv : ∀ b, (Value.slice none 0 0).ownBlock = some b → w.heap.size ≤ b ∧ ¬ ((Kp.emp.and (.blk N #[.string nm, .int .i64 i1, .int .i64 i2, .bool b3, .bool b4] 64)).and (.it w6.heap.size s 0)).S b := fun b hb => by cases hb
  go_upto_region 10 with fail
  obtain ⟨wr, hwr⟩ : ∃ wr, wr = w6.iter s 0 := ⟨_, rfl⟩
  rw [← hwr] at hS3 ⊢
  generalize w6.heap.size = D at *
  have hDN : N < D := hN
  clear hwr hN hS
  replace ha := Lib.hid ha
  go_loopw [9] (fun lv wr => ∃ k : Nat, k ≤ s.size ∧ (∀ i, i < k → ¬ badR M here ((s.size : Int) - 1 - (i : Int)) (isH s i)) ∧ Onr w wr B rb M R (((Kp.emp.and (.blk N #[.string nm, .int .i64 i1, .int .i64 i2, .bool b3, .bool b4] 64)).and (.it D s k)).and (.vs 1 lv k (ic (adL M s.size k)))) ∧ (∀ b, lv.ownBlock = some b → w.heap.size ≤ b ∧ ¬ ((Kp.emp.and (.blk N #[.string nm, .int .i64 i1, .int .i64 i2, .bool b3, .bool b4] 64)).and (.it D s k)).S b)) (fun lv _ => s.size - lnOf lv)
  case atStart => exact ⟨0, Nat.zero_le _, fun i hi => absurd hi (Nat.not_lt_zero i), hS3.keep (fun O h => h.and (Keep.vs (Vs.nil _ 0 1) (fun b hb => by cases hb))), hnv⟩
  case round =>
    clear hS3 hnv
    obtain ⟨k, hk, hgood, hS, hown⟩ := hrel
    obtain ⟨ad, cap, rfl, hcap⟩ := hS.fact.2.form
    by_cases hlt : k < s.size
    · have hit := hS.fact.1.2
      have hx := run_next_ascii_at (P := Try.prog) _ D s k 0 hit hlt (ha.out k hlt)
      have hSi := (hS.keep (L := ((Kp.emp.and (.blk N #[.string nm, .int .i64 i1, .int .i64 i2, .bool b3, .bool b4] 64)).and (.vs 1 (.slice ad k cap) k (ic (adL M s.size k)))).and (.it D s k)) fun O h => (h.left.left.and h.right).and h.left.right).itAt (by omega) (fun hS' => by
        rcases hS' with (h | h) | h
        · exact h
        · have h2 : D = N := h
          omega
        · exact (hown D h).2 (.inr rfl)) (k + 1)
      obtain ⟨a, hae⟩ : ∃ a, a = peekV M 32 256 512 ((s.size : Int) - 1 - (k : Int)) := ⟨_, rfl⟩
      obtain ⟨q, hq⟩ : ∃ q, q = (s.size : Int) - 1 - (k : Int) := ⟨_, rfl⟩
      have wq1 : IntKind.i64.wrap ((s.size : Int) - 1) = (s.size : Int) - 1 := by rw [IntKind.wrap_i64]; omega
      have wq : IntKind.i64.wrap ((s.size : Int) - 1 - (k : Int)) = q := by rw [hq, IntKind.wrap_i64]; omega
      have hAt := hA.out
      have hAq := Lib.hid (fun (w9 : World) (O : Nat → Prop) (h : RefP w9 B rb M O) => hA.out w9 O h q (by unfold isI; omega))
      rw [← hq] at hae
      rw [← hae] at hAq
      have hbd : badR M here q (isH s k) ↔ (a % 8 ≠ 0 ∨ a < 1536 ∨ here < a ∨ (isH s k = true ∧ here - 8 < a)) := by unfold badR; rw [← hae]
      obtain ⟨r, hr⟩ : ∃ r, r = a.tmod 8 := ⟨_, rfl⟩
      have hr0 : r = 0 ↔ a % 8 = 0 := by rw [hr, Int.tmod_eq_emod]; split <;> omega
      have rm : a.tmod 8 = r := hr.symm
      replace hae := Lib.hid hae
      replace hq := Lib.hid hq
      clear hr hAt
      by_cases c1 : r = 0
      · have t2 : (r != 0) = false := by simp; exact c1
        by_cases c2 : a < 1536
        · have t3 : (a < 1536) = True := eq_true c2
          clear hS hit
          go_wp2_with (go_at_call 36; refine (hSi.read (fun O h => hAq.out _ O h)).mono ?_; rintro e w7 ⟨rfl, hS2⟩; clear hSi; have hSi := hS2; clear hS2)
          go_ret
          exact hSi.weak.weak.weak.refQ _
        · have t3 : (a < 1536) = False := eq_false c2
          by_cases c3 : here < a
          · have t4 : (here < a) = True := eq_true c3
            clear hS hit
            go_wp2_with (go_at_call 36; refine (hSi.read (fun O h => hAq.out _ O h)).mono ?_; rintro e w7 ⟨rfl, hS2⟩; clear hSi; have hSi := hS2; clear hS2)
            go_ret
            exact hSi.weak.weak.weak.refQ _
          · have t4 : (here < a) = False := eq_false c3
            have w8 : IntKind.i64.wrap (here - 8) = here - 8 := by rw [IntKind.wrap_i64]; omega
            have i1' : (0 : Int) ≤ (k : Int) := by omega
            have i2' : (k : Int) < (s.size : Int) := by omega
            clear hS hit
            by_cases c4 : ((s[k]'hlt).toNat : Int) = 104
            · have t5 : ((((s[k]'hlt).toNat : Int)) == 104) = true := by simp [c4]
              have t5' : (((s[k]'hlt).toNat : Int) = 104) = True := eq_true c4
              by_cases c5 : here - 8 < a
              · have t6 : (here - 8 < a) = True := eq_true c5
                go_wp2_with (go_at_call 36; refine (hSi.read (fun O h => hAq.out _ O h)).mono ?_; rintro e w7 ⟨rfl, hS2⟩; clear hSi; have hSi := hS2; clear hS2)
                go_ret
                exact hSi.weak.weak.weak.refQ _
              · have hgn := Lib.hid (good_next hgood (by rw [← hq.out, hbd, isH_iff s k hlt]; have := hr0.1 c1; omega))
                have t6 : (here - 8 < a) = False := eq_false c5
                go_upto_region 15 with (go_at_call 36; refine (hSi.read (fun O h => hAq.out _ O h)).mono ?_; rintro e w7 ⟨rfl, hS2⟩; clear hSi; have hSi := hS2; clear hS2)
                have hSv := hSi.keep (L := ((Kp.emp.and (.blk N #[.string nm, .int .i64 i1, .int .i64 i2, .bool b3, .bool b4] 64)).and (.it D s (k + 1))).and (.vs 1 (.slice ad k cap) k (ic (adL M s.size k)))) fun O h => (h.left.left.and h.right).and h.left.right
                have hSa := hSv.alloc (.cells #[.int .i64 a] 2)
                obtain ⟨v', w9, hrn, hS4, hown4, hsz⟩ := Onr.appendVs (P := Try.prog) (ty := 24) hSa hown ((Vs.lit1 _ (.int .i64 a) _ rfl).src (t := 24) Try.underlying24) Try.underlying24 infoI rfl (by omega) (by omega) (by omega)
                obtain ⟨a', c', rfl, hcap'⟩ := hS4.fact.2.form
                have hT4 := Lib.hid (show Onr w w9 B rb M R (((Kp.emp.and (.blk N #[.string nm, .int .i64 i1, .int .i64 i2, .bool b3, .bool b4] 64)).and (.it D s (k + 1))).and (.vs 1 (.slice a' (k + 1) c') (k + 1) (ic (adL M s.size (k + 1))))) from by
                  have e : ic (adL M s.size k) ++ [Value.int .i64 a] = ic (adL M s.size (k + 1)) := by rw [adL_succ, ← hq.out, ← hae.out]; simp [ic]
                  rw [← e]; exact hS4)
                have hT5 := Lib.hid hown4
                clear hSi hSv hSa hS4 hown hown4 hcap' hsz
                go_wp2_with (at_builtin; refine wpList_append_bs rfl _ _ 24 rfl hrn rfl rfl ?_)
                go_roundw
                case rel => exact ⟨k + 1, hlt, hgn.out, hT4.out, hT5.out⟩
                case measure => simp [lnOf]; omega
            · have hgn := Lib.hid (good_next hgood (by rw [← hq.out, hbd, isH_iff s k hlt]; have := hr0.1 c1; omega))
              have t5 : ((((s[k]'hlt).toNat : Int)) == 104) = false := by simp [c4]
              have t5' : (((s[k]'hlt).toNat : Int) = 104) = False := eq_false c4
              go_upto_region 15 with (go_at_call 36; refine (hSi.read (fun O h => hAq.out _ O h)).mono ?_; rintro e w7 ⟨rfl, hS2⟩; clear hSi; have hSi := hS2; clear hS2)
              have hSv := hSi.keep (L := ((Kp.emp.and (.blk N #[.string nm, .int .i64 i1, .int .i64 i2, .bool b3, .bool b4] 64)).and (.it D s (k + 1))).and (.vs 1 (.slice ad k cap) k (ic (adL M s.size k)))) fun O h => (h.left.left.and h.right).and h.left.right
              have hSa := hSv.alloc (.cells #[.int .i64 a] 2)
              obtain ⟨v', w9, hrn, hS4, hown4, hsz⟩ := Onr.appendVs (P := Try.prog) (ty := 24) hSa hown ((Vs.lit1 _ (.int .i64 a) _ rfl).src (t := 24) Try.underlying24) Try.underlying24 infoI rfl (by omega) (by omega) (by omega)
              obtain ⟨a', c', rfl, hcap'⟩ := hS4.fact.2.form
              have hT4 := Lib.hid (show Onr w w9 B rb M R (((Kp.emp.and (.blk N #[.string nm, .int .i64 i1, .int .i64 i2, .bool b3, .bool b4] 64)).and (.it D s (k + 1))).and (.vs 1 (.slice a' (k + 1) c') (k + 1) (ic (adL M s.size (k + 1))))) from by
                have e : ic (adL M s.size k) ++ [Value.int .i64 a] = ic (adL M s.size (k + 1)) := by rw [adL_succ, ← hq.out, ← hae.out]; simp [ic]
                rw [← e]; exact hS4)
              have hT5 := Lib.hid hown4
              clear hSi hSv hSa hS4 hown hown4 hcap' hsz
              go_wp2_with (at_builtin; refine wpList_append_bs rfl _ _ 24 rfl hrn rfl rfl ?_)
              go_roundw
              case rel => exact ⟨k + 1, hlt, hgn.out, hT4.out, hT5.out⟩
              case measure => simp [lnOf]; omega
      · have t2 : (r != 0) = true := by simp; exact c1
        clear hS hit
        go_wp2_with (go_at_call 36; refine (hSi.read (fun O h => hAq.out _ O h)).mono ?_; rintro e w7 ⟨rfl, hS2⟩; clear hSi; have hSi := hS2; clear hS2)
        go_ret
        exact hSi.weak.weak.weak.refQ _
    · obtain ⟨i, hi, hb⟩ := hbad.out
      exact absurd hb (hgood i (by omega))
end Go.Proofs.Ytkcmphjgflbchaa
