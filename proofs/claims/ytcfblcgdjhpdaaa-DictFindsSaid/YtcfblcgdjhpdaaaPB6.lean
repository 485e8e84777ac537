/- The iterator over all primitives. -/
import Derived.Test.YtcfblcgdjhpdaaaPB4
import Derived.RangeFuncNested
import Derived.RangeFuncBound
import Derived.RangeFuncCalls
import Derived.RangeFuncLeaves
import Derived.RangeFuncWrites
import Derived.Shelf.Abstract
import Derived.Shelf.RegionOpen
import Derived.OwnWalkIn
import Derived.TacticsInMore
import Derived.LoopNIn
import Derived.LoopIn
import Derived.Maps.OwnIn
namespace Go.Proofs.Ytcfblcgdjhpdaaa
open Go.RowKit Go.Shelf
set_option linter.unusedVariables false
set_option linter.unusedSimpArgs false
attribute [local go_sem] Oper.semAt_some
attribute [local irreducible] cells19 cells20 rowL tabL

/-- A primitive's number. -/
abbrev Ix := { n : Nat // 1 ≤ n ∧ n ≤ 141 }
def allIx : List Ix := (List.finRange 141).map fun i => ⟨i.1 + 1, by omega, by have := i.2; omega⟩
theorem allIx_len : allIx.length = 141 := by simp [allIx]
theorem allIx_at (k : Nat) (hk : k < 141) : allIx[k]? = some ⟨k + 1, by omega, by omega⟩ := by simp [allIx, hk]
theorem allIx_next (k : Nat) (hk : k < 141) : allIx.take k ++ [⟨k + 1, by omega, by omega⟩] = allIx.take (k + 1) := by
  rw [List.take_add_one, allIx_at k hk]; rfl
noncomputable def rowAt (x : Ix) : Row := rowL.getD x.1 default
noncomputable abbrev encs (x : Ix) : Array Value := #[.int .i64 (x.1 : Int), primV (rowAt x)]
theorem grown_of_below {w w' : World} (h : Below w.heap.size w w') : w.grownBy w' none := ⟨h.os, h.tape, h.output, h.size, fun k hk _ => h.block k hk⟩

set_option maxRecDepth 100000 in
set_option maxHeartbeats 1000000 in
theorem all_stops (n : Nat) (hn : 1 ≤ n) (w : World) : SeqStopsK Fence.wide n Try.prog 76 #[] encs (fun _ _ => True) (fun ys => ys = allIx) (fun pre => pre <+: allIx) 141 w := fun l J Jx W hW hJ hJx hY h0 => by
  have hw1 : ∀ k : Nat, k < 141 → IntKind.i64.wrap ((k : Int) + 1) = (k : Int) + 1 := fun k hk => by rw [IntKind.wrap_i64]; omega
  refine callsIn_of_wp Try.func76 rfl trivial ?_ rfl
  simp only [Try.ntmps76, List.size_toArray, List.length_cons, List.length_nil, Nat.reduceAdd, Nat.reduceSub, Array.replicate_succ, Array.replicate_zero, List.push_toArray, List.append_toArray, List.nil_append, List.cons_append]
  gi_wp2
  gi_loopw [5] (fun p wr => ∃ k : Nat, k ≤ 141 ∧ p = .int .i64 (k : Int) ∧ J (allIx.take k) wr ) (fun p wr => 141 - (intOf p).toNat)
  case atStart =>
    exact ⟨0, by omega, rfl, h0⟩
  case round =>
    obtain ⟨k, hk, rfl, hJs⟩ := hrel
    by_cases hk0 : k < 141
    · have hwk := hw1 k hk0
      have t1 : (k : Int) < 141 := by omega
      have HO := fun w => wOf ((k : Int) + 1) (by omega) (by omega) w
      have HY := fun W2 hJ' => hY (allIx.take k) ⟨k + 1, by omega, by omega⟩ W2 hJ' (by rw [List.length_take]; omega)
      rw [allIx_next k hk0] at HY
      have ekn : ((k : Int) + 1).toNat = k + 1 := by omega
      have ek : ((k + 1 : Nat) : Int) = (k : Int) + 1 := by omega
      have hJ1 := fun W2 (hb : Below wr.heap.size wr W2) => hJ (allIx.take k) wr W2 none hJs (grown_of_below hb) (fun r e => by cases e)
      rw [ekn] at HO
      unfold encs rowAt at HY
      dsimp only at HY
      rw [ek] at HY
      obtain ⟨r, hr⟩ : ∃ r, r = rowL.getD (k + 1) default := ⟨_, rfl⟩
      rw [← hr] at HO HY
      obtain ⟨nm, tk, ly, nw, on⟩ := r
      unfold primV at HO HY
      have HO' := Lib.hid HO
      have HY' := Lib.hid HY
      have hJ1' := Lib.hid hJ1
      clear hr HO HY hJ1 hY ekn ek
      gi_wp2_with (refine ⟨trivial, ?_⟩; gi_at_call 34; refine (callsIn_wide.2 (HO'.out _)).mono ?_; rintro e w1 ⟨rfl, hb_w1⟩; obtain ⟨fn, tmps, assign, body, hy, hR⟩ := HY'.out (w1.alloc (.cells #[.string nm, .int .i64 tk, .int .i64 ly, .bool nw, .bool on] 73)) (hJ1'.out _ (by repeat (first | (with_reducible exact Below.refl _ _) | (with_reducible assumption) | (with_reducible apply bel_alloc) | (with_reducible apply bel_drew) | (with_reducible refine bel_set ?_ (by first | exact Nat.le_refl _ | (simp; done) | omega | (simp; omega)) _) | (with_reducible refine bel_trans ?_ (by with_reducible assumption))))))
      refine hR.mono ?_
      rintro e W3 (⟨rfl, hJ3, -⟩ | ⟨rfl, hJx3⟩)
      · gi_wp2
        go_roundw
        case rel => exact ⟨k + 1, by omega, rfl, hJ3⟩
        case measure => simp [intOf]; omega
      · gi_wp2
        refine bodyPost_ret (results_none rfl _ _ _) rfl ?_
        exact ⟨⟨_, rfl⟩, .inr ⟨allIx.take (k + 1), List.take_prefix _ _, hJx3⟩⟩
    · obtain rfl : k = 141 := by omega
      gi_wp2
      go_end0
      exact ⟨⟨_, rfl⟩, .inl ⟨allIx, rfl, by rw [← allIx_len, List.take_length] at hJs; exact hJs⟩⟩
end Go.Proofs.Ytcfblcgdjhpdaaa
