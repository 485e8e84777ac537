/- 'Takes'. -/
import Derived.Test.YtjeelccdbhhfjaaT6
namespace Go.Proofs.Ytjeelccdbhhfjaa
open Go.RowKit
set_option linter.unusedVariables false
set_option linter.unusedSimpArgs false
attribute [local go_sem] cell_set set_set m_undef

theorem infoI : (Try.prog.info? 2).map (fun i => (i.zero, i.size, i.bytes)) = some (some (.int .i64 0), 1, 8) := by kernel_rfl
/-- The memory behind k takings. -/
def popN (M : List UInt8) : Nat → List UInt8
  | 0 => M
  | k + 1 => popM (popN M k) 32 256 512
/-- What they took, the first one first. -/
def popsL (M : List UInt8) (k : Nat) : List Int := (List.range k).map fun j => peekV (popN M j) 32 256 512 0
theorem popsL_succ (M : List UInt8) (k : Nat) : popsL M (k + 1) = popsL M k ++ [peekV (popN M k) 32 256 512 0] := by simp [popsL, List.range_succ]
theorem popsL_len (M : List UInt8) (k : Nat) : (popsL M k).length = k := by simp [popsL]
theorem popN_len (M : List UInt8) (h : M.length = 8192) (k : Nat) : (popN M k).length = 8192 := by
  induction k with
  | zero => exact h
  | succ k ih => exact popM_len _ _ _ _ ih
def takesN (n : Int) : Nat := (max n 0).toNat
def takesM (M : List UInt8) (n : Int) : List UInt8 := if depL M 32 256 512 < n then M else popN M (takesN n)
def takesT (M : List UInt8) (n : Int) : Int := if depL M 32 256 512 < n then -4 else 0
def takesL (M : List UInt8) (n : Int) : List Int := if depL M 32 256 512 < n then [] else (popsL M (takesN n)).reverse
theorem One.turnVs {W w w' : World} {Bm mb : Nat} {M : List UInt8} {O0 : Nat → Prop} {K : Kp} {k n : Nat} {v : Value} {cs cs' : List Value} (h : One W w Bm mb M O0 (K.and (.vs k v n cs))) (hown : ∀ b, v.ownBlock = some b → W.heap.size ≤ b ∧ ¬ K.S b) (hv : Vs w' 0 k v n cs') (hg : w.grownBy w' v.ownBlock) : One W w' Bm mb M O0 (K.and (.vs k v n cs')) := by
  obtain ⟨O, h1, h2, h3, h4⟩ := h
  have hvO : ∀ b, v.ownBlock = some b → ¬ O b := fun b hb => (h3.2 b (.inr hb)).2
  exact ⟨O, h1.kept hg hvO, h2.grownOwn hg (fun b hb => (hown b hb).1), (h3.left.grown hg (fun b hb => (hown b hb).2)).and (Keep.vs hv hvO), h4⟩
theorem Vs.lit1 (w : World) (u : Value) (t : TypeId) (hu : u.oneCell' = true) : Vs (w.alloc (.cells #[u] t)) 0 1 (.slice (some ⟨w.heap.size, 0, none⟩) 1 1) 1 [u] :=
  Vs.of_blk (Blk.new _ _ _) rfl (by simp) (Nat.le_refl _) (fun j x hj => by simpa using hj) (fun x hx => by simp at hx; rw [hx]; exact hu) (Nat.zero_le _)
/-- 'Takes': what it gives. -/
def TakesP (w w' : World) (B mb : Nat) (M : List UInt8) (O : Nat → Prop) (n : Int) (e : Ending) : Prop :=
  MemX w w' B mb O (fun v : Value => .tuple #[v, .int .i64 (takesT M n)]) (fun _ => takesM M n) (fun v => .vsN w.heap.size 1 v (takesL M n).length (ic (takesL M n))) e
set_option maxRecDepth 100000 in
set_option maxHeartbeats 1600000 in
theorem kTakes {w : World} {B mb : Nat} {M : List UInt8} {O : Nat → Prop} (h : MemP w B mb M O) (hB : B ≤ w.heap.size) (n : Int) (hn : isI n) :
    Calls Try.prog 21 #[.pointer (some ⟨mb, 0, none⟩), .int .i64 n] w fun e w' => TakesP w w' B mb M O n e := by
  have hS := One.start h hB
  have hdb := (depL_bd (M := M) (show Sk 32 256 512 from by unfold Sk; omega))
  have hD := Lib.hid (fun (w9 : World) (O : Nat → Prop) (h : MemP w9 B mb M O) (hb : B ≤ w9.heap.size) => kDepth h hb)
  have hMk := Lib.hid (fun (w9 : World) => mdata w9 (some ⟨mb, 0, none⟩))
  unfold TakesP takesT takesM takesL
  generalize depL M 32 256 512 = d at *
  by_cases c1 : d < n
  · have t1 : (d < n) = True := by simp; exact c1
    simp only [if_pos c1]
    clear c1 hdb hn
    go_enter Try.func21, Try.ntmps21
    go_wp2_with (go_at_call 22; refine (hS.mem (fun O h hb => hD.out _ _ h hb)).mono ?_; rintro e w2 ⟨rfl, hS2⟩; clear hS; have hS := hS2; clear hS2)
    go_ret2
    obtain ⟨O', q1, q2, q3, q4⟩ := hS
    exact ⟨_, O', rfl, q1, q2, (Keep.vs (Vs.nil _ 0 1) (fun b hb => by cases hb)).vsN (fun b hb => by cases hb)⟩
  · have t1 : (d < n) = False := by simp; omega
    simp only [if_neg c1]
    obtain ⟨N, hN⟩ : ∃ N, N = takesN n := ⟨_, rfl⟩
    have hNn : (N : Int) = max n 0 := by rw [hN]; unfold takesN; omega
    have hN32 : N ≤ 32 := by omega
    rw [← hN]
    have hmx : max n 0 = (N : Int) := hNn.symm
    have hmx2 : (if n < 0 then (0 : Int) else n) = (N : Int) := by split <;> omega
    replace hNn := Lib.hid hNn
    replace hN := Lib.hid hN
    clear c1 hdb hn
    go_enter Try.func21, Try.ntmps21
    go_wp2_with (first
      | (go_at_call 22; refine (hS.mem (fun O h hb => hD.out _ _ h hb)).mono ?_; rintro e w2 ⟨rfl, hS2⟩; clear hS; have hS := hS2; clear hS2)
      | (go_at_call 31; refine (hS.still (hMk.out _)).mono ?_; rintro e w2 ⟨rfl, hS2⟩; clear hS; have hS := hS2; clear hS2))
    go_loopw [6, 19] (fun l i wr => ∃ (k : Nat), i = .int .i64 (k : Int) ∧ k ≤ N ∧ One w wr B mb (popN M k) O (Kp.emp.and (.vs 1 l k (ic (popsL M k)))) ∧ (∀ b, l.ownBlock = some b → w.heap.size ≤ b ∧ ¬ Kp.emp.S b)) (fun _ i _ => (N - (intOf i).toNat))
    case atStart => exact ⟨0, rfl, by omega, hS.keep (fun O h => h.and (Keep.vs (Vs.nil _ 0 1) (fun b hb => by cases hb))), fun b hb => by cases hb⟩
    case round =>
      obtain ⟨k, rfl, hk, hS, hown⟩ := hrel
      obtain ⟨ad, cap, rfl, hcap⟩ := hS.fact.2.form
      clear hcap
      by_cases hlt : k < N
      · have t2 : ((k : Int) < (N : Int)) = True := by simp; omega
        have wk : IntKind.i64.wrap ((k : Int) + 1) = ((k + 1 : Nat) : Int) := by rw [IntKind.wrap_i64]; omega
        obtain ⟨x, hx⟩ : ∃ x, x = peekV (popN M k) 32 256 512 0 := ⟨_, rfl⟩
        obtain ⟨y, hy⟩ : ∃ y, y = peekT (popN M k) 32 256 512 (-4) 0 := ⟨_, rfl⟩
        have hP := Lib.hid (fun (w9 : World) (O : Nat → Prop) (h : MemP w9 B mb (popN M k) O) (hb : B ≤ w9.heap.size) => mPop h hb 32 256 512 (-3) (-4) (by unfold Sk; omega) (by decide))
        rw [← hx, ← hy] at hP
        have hxe := Lib.hid hx
        clear hx hy
        go_upto_region 8 with (go_at_call 34; refine (hS.mem (fun O h hb => hP.out _ _ h hb)).mono ?_; rintro e w2 ⟨rfl, hS2⟩; clear hS; have hS := hS2; clear hS2)
        have hSa := hS.alloc (.cells #[.int .i64 x] 2)
        obtain ⟨v', w3, hr, hS4, hown4, hsz⟩ := One.appendVs (P := Try.prog) (ty := 22) hSa hown ((Vs.lit1 _ (.int .i64 x) _ rfl).src (t := 22) Try.underlying22) Try.underlying22 infoI rfl (by omega) (by omega) (by omega)
        obtain ⟨a', c', rfl, hcap'⟩ := hS4.fact.2.form
        have hT4 := Lib.hid (show One w w3 B mb (popN M (k + 1)) O (Kp.emp.and (.vs 1 (.slice a' (k + 1) c') (k + 1) (ic (popsL M (k + 1))))) from by
          have e : ic (popsL M k) ++ [Value.int .i64 x] = ic (popsL M (k + 1)) := by rw [popsL_succ, hxe.out]; simp [ic]
          rw [← e]; exact hS4)
        have hT5 := Lib.hid hown4
        clear hS hSa hS4 hown hown4 hcap' hsz hP
        replace hk := Lib.hid hk
        replace hlt := Lib.hid hlt
        go_wp2_with (at_builtin; refine wpList_append_bs rfl _ _ 22 rfl hr rfl rfl ?_)
        go_roundw
        case rel => exact ⟨k + 1, rfl, by have := hlt.out; omega, hT4.out, hT5.out⟩
        case measure => have := hlt.out; simp [intOf]; omega
      · have t2 : ((k : Int) < (N : Int)) = False := by simp; omega
        have hkN : k = N := by omega
        subst hkN
        have hRv := Lib.hid (fun (w9 : World) (h9 : Vs w9 0 1 (.slice ad k cap) k (ic (popsL M k))) => wReverse h9 (by omega))
        replace hown := Lib.hid hown
        clear hlt hk hMk hD
        go_wp2_with (go_at_call 42; refine (hRv.out _ hS.fact.2).mono ?_; rintro e w2 ⟨rfl, hV2, hg2⟩; have hS2 := hS.turnVs hown.out hV2 hg2; clear hS hV2 hg2; have hS := hS2; clear hS2)
        go_ret2
        obtain ⟨O', q1, q2, q3, q4⟩ := hS
        refine ⟨_, O', rfl, q1, q2, ?_⟩
        rw [List.length_reverse, popsL_len]
        exact q3.right.vsN (fun b hb => (hown.out b hb).1)
end Go.Proofs.Ytjeelccdbhhfjaa
