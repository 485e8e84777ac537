/- Texts merged: W23 W24. -/
import Derived.Test.YtkcmphjgflbchaaZ12
/- The reference's Do behind the loop. -/
namespace Go.Proofs.Ytkcmphjgflbchaa
open Go.RowKit Go.Lib
set_option linter.unusedVariables false
set_option linter.unusedSimpArgs false
attribute [local go_sem] cell_set set_set m_undef

attribute [local irreducible] takeT peekV lyM lyV takesM takesT takesL laysM laysT setM cellsB
theorem Onr.made {W w w' : World} {Bm rb : Nat} {M : List UInt8} {O0 : Nat → Prop} {K : Kp} (h : Onr W w Bm rb M O0 K) (hb : Below w.heap.size w w') {n m : Nat} {v u : Value} {cs ds : List Value} (hv : Vs w' w.heap.size 1 v n cs) (hu : Vs w' w.heap.size 1 u m ds) : Onr W w' Bm rb M O0 ((K.and (.vs 1 v n cs)).and (.vs 1 u m ds)) := by
  obtain ⟨O, h1, h2, h3, h4⟩ := h
  have ap : ∀ {v : Value} {n : Nat} {cs : List Value}, Vs w' w.heap.size 1 v n cs → ∀ b, v.ownBlock = some b → ¬ O b := fun hv b hb2 hO => by
    have h8 := (h1.lt hO).1
    rcases hv.own with e | ⟨x, e, hx, _⟩
    · rw [hb2] at e; cases e
    · rw [hb2] at e; cases e; omega
  exact ⟨O, h1.below hb, h2.trans (Turn.of_below hb O), ((h3.turn (Turn.of_below hb O)).and (Keep.vs hv (ap hv))).and (Keep.vs hu (ap hu)), h4⟩
theorem Onr.refK2 {W w : World} {B rb : Nat} {M : List UInt8} {O0 : Nat → Prop} {K : Kp} (h : Onr W w B rb M O0 K) {f : Nat} {args : Array Value} {M' : List UInt8} {v : Value} (c : ∀ O, RefP w B rb M O → B ≤ w.heap.size → Keep w O K → Calls Try.prog f args w fun e w' => RefQ w w' B rb M' O v e) :
    Calls Try.prog f args w fun e w' => e = .returned v ∧ Onr W w' B rb M' O0 K := by
  obtain ⟨O, h1, h2, h3, h4⟩ := h
  refine (c O h1 (Nat.le_trans h4 h2.size) h3).mono fun e w' ⟨he, O', h5, h6⟩ => ⟨he, O', h5, h2.trans h6, h3.turn h6, h4⟩
set_option maxRecDepth 100000 in
set_option maxHeartbeats 8000000 in
theorem rDo_ok {w : World} {B rb : Nat} {M : List UInt8} {R : Nat → Prop} (h : RefP w B rb M R) (hB : B ≤ w.heap.size) (n : Int) (hn : isC n = true) {nm s : ByteArray} {i1 i2 : Int} {b3 b4 : Bool}
    (hO : ∀ w : World, Calls Try.prog 32 #[.int .i64 n] w fun e w' => e = .returned (.tuple #[.agg #[.string nm, .int .i64 i1, .int .i64 i2, .bool b3, .bool b4], .bool true]) ∧ Below w.heap.size w w')
    (hT : ∀ w : World, Calls Try.prog 33 #[.string nm] w fun e w' => e = .returned (.string s) ∧ w = w') (hd : ¬ depL M 32 256 512 < (s.size : Int)) (hs2 : s.size ≤ 2) (ha : ∀ k (h : k < s.size), (s[k]'h).toNat < 128)
    {hole tgt : Int} {cl ll : List Int}
    (hok : ∀ i, i < s.size → ¬ badR M (hereL M) ((s.size : Int) - 1 - (i : Int)) (isH s i))
    (hM : ∀ (w9 : World) (al : Option Addr) (n cl0 : Nat), n = s.size → Rv w9 1 (.slice al n cl0) n (ic (adL M s.size s.size)) → Calls Try.prog 37 #[.string nm, .int .i64 (hereL M), .slice al n cl0] w9 fun e w' => MadeQ w9 w' cl ll hole tgt e)
    (hcl : cl.length ≤ 1000) (hll : ll.length ≤ 1000) (hhi : isI hole) :
    Calls Try.prog 13 #[.pointer (some ⟨rb, 0, none⟩), .int .i64 n] w fun e w' => RefQ w w' B rb (if doneV M (hereL M) (s.size : Int) cl ll = 0 then finM M (s.size : Int) cl ll hole tgt else M) R (.int .i64 (doneV M (hereL M) (s.size : Int) cl ll)) e := by
  have hS := Onr.start h hB
  have hI := rIsC n
  rw [hn] at hI
  replace hI := Lib.hid hI
  replace hO := Lib.hid hO
  replace hT := Lib.hid hT
  have hD := Lib.hid (fun (w9 : World) (O : Nat → Prop) (h : RefP w9 B rb M O) => rDepth h)
  have hHr := Lib.hid (fun (w9 : World) (O : Nat → Prop) (h : RefP w9 B rb M O) => rHere h)
  have hA := Lib.hid (fun (w9 : World) (O : Nat → Prop) (h : RefP w9 B rb M O) (n : Int) (hn : isI n) => rAt h n hn)
  have hTk := Lib.hid (fun (w9 : World) (O : Nat → Prop) (h : RefP w9 B rb M O) => rTakes h (s.size : Int) (by unfold isI; omega))
  have hdb := (depL_bd (M := M) (show Sk 32 256 512 from by unfold Sk; omega))
  obtain ⟨t, ht⟩ : ∃ t, t = doneV M (hereL M) (s.size : Int) cl ll := ⟨_, rfl⟩
  obtain ⟨F, hF⟩ : ∃ F, F = finM M (s.size : Int) cl ll hole tgt := ⟨_, rfl⟩
  rw [← ht, ← hF]
  obtain ⟨Z, hZ⟩ : ∃ Z, Z = if t = 0 then F else M := ⟨_, rfl⟩
  rw [← hZ]
  replace hZ := Lib.hid hZ
  unfold doneV at ht
  unfold finM at hF
  replace hF := Lib.hid hF
  replace hM := Lib.hid hM
  have hhi' := Lib.hid hhi
  clear hhi
  generalize depL M 32 256 512 = d at *
  have hin := hereL_in M
  generalize hereL M = here at *
  have t1 : (d < (s.size : Int)) = False := eq_false hd
  replace ht := Lib.hid ht
  replace hdb := Lib.hid hdb
  replace hok := Lib.hid hok
  clear hn h hB hd
  go_enter Try.func13, Try.ntmps13
  go_upto_region 9 with (first
    | (go_at_call 15; refine (hS.still (hI.out _)).mono ?_; rintro e w2 ⟨rfl, hS2⟩; clear hS; have hS := hS2; clear hS2)
    | (go_at_call 32; refine (hS.still (hO.out _)).mono ?_; rintro e w3 ⟨rfl, hS2⟩; clear hS; have hS := hS2; clear hS2)
    | (go_at_call 33; refine (hT.out _).mono ?_; rintro e w4 ⟨rfl, hw⟩; have hS2 := hS.new #[.string nm, .int .i64 i1, .int .i64 i2, .bool b3, .bool b4] 64; rw [hw] at hS2; clear hS; have hS := hS2; clear hS2 hw)
    | (go_at_call 34; refine (hS.read (fun O h => hD.out _ O h)).mono ?_; rintro e w5 ⟨rfl, hS2⟩; clear hS; have hS := hS2; clear hS2)
    | (go_at_call 35; refine (hS.read (fun O h => hHr.out _ O h)).mono ?_; rintro e w6 ⟨rfl, hS2⟩; clear hS; have hS := hS2; clear hS2))
  have hN := hS.slt (.inr rfl)
  generalize w3.heap.size = N at *
  have hS3 := hS.newIt s
  have hDw := hS.size
  have hnv : ∀ b, (Value.slice none 0 0).ownBlock = some b → w.heap.size ≤ b ∧ ¬ ((Kp.emp.and (.blk N #[.string nm, .int .i64 i1, .int .i64 i2, .bool b3, .bool b4] 64)).and (.it w6.heap.size s 0)).S b := fun b hb => by cases hb
  go_upto_region 10 with fail
  obtain ⟨wr, hwr⟩ : ∃ wr, wr = w6.iter s 0 := ⟨_, rfl⟩
  rw [← hwr] at hS3 ⊢
  generalize w6.heap.size = D at *
  have hDN : N < D := hN
  clear hwr hN hS
  replace ha := Lib.hid ha
  go_loopw [9] (fun lv wr => ∃ k : Nat, k ≤ s.size ∧ (∀ i, i < k → ¬ badR M here ((s.size : Int) - 1 - (i : Int)) (isH s i)) ∧ Onr w wr B rb M R (((Kp.emp.and (.blk N #[.string nm, .int .i64 i1, .int .i64 i2, .bool b3, .bool b4] 64)).and (.it D s k)).and (.vs 1 lv k (ic (adL M s.size k)))) ∧ (∀ b, lv.ownBlock = some b → w.heap.size ≤ b ∧ ¬ ((Kp.emp.and (.blk N #[.string nm, .int .i64 i1, .int .i64 i2, .bool b3, .bool b4] 64)).and (.it D s k)).S b)) (fun lv _ => s.size - lnOf lv)
  case atStart => exact ⟨0, Nat.zero_le _, fun i hi => absurd hi (Nat.not_lt_zero i), hS3.keep (fun O h => h.and (Keep.vs (Vs.nil _ 0 1) (fun b hb => by cases hb))), hnv⟩
  case round =>
    clear hS3 hnv
    obtain ⟨k, hk, hgood, hS, hown⟩ := hrel
    obtain ⟨ad, cap, rfl, hcap⟩ := hS.fact.2.form
    by_cases hlt : k < s.size
    · have hit := hS.fact.1.2
      have hx := run_next_ascii_at (P := Try.prog) _ D s k 0 hit hlt (ha.out k hlt)
      have hSi := (hS.keep (L := ((Kp.emp.and (.blk N #[.string nm, .int .i64 i1, .int .i64 i2, .bool b3, .bool b4] 64)).and (.vs 1 (.slice ad k cap) k (ic (adL M s.size k)))).and (.it D s k)) fun O h => (h.left.left.and h.right).and h.left.right).itAt (by omega) (fun hS' => by
        rcases hS' with (h | h) | h
        · exact h
        · have h2 : D = N := h
          omega
        · exact (hown D h).2 (.inr rfl)) (k + 1)
      obtain ⟨a, hae⟩ : ∃ a, a = peekV M 32 256 512 ((s.size : Int) - 1 - (k : Int)) := ⟨_, rfl⟩
      obtain ⟨q, hq⟩ : ∃ q, q = (s.size : Int) - 1 - (k : Int) := ⟨_, rfl⟩
      have wq1 : IntKind.i64.wrap ((s.size : Int) - 1) = (s.size : Int) - 1 := by rw [IntKind.wrap_i64]; omega
      have wq : IntKind.i64.wrap ((s.size : Int) - 1 - (k : Int)) = q := by rw [hq, IntKind.wrap_i64]; omega
      have hAt := hA.out
      have hAq := Lib.hid (fun (w9 : World) (O : Nat → Prop) (h : RefP w9 B rb M O) => hA.out w9 O h q (by unfold isI; omega))
      rw [← hq] at hae
      rw [← hae] at hAq
      have hbd : badR M here q (isH s k) ↔ (a % 8 ≠ 0 ∨ a < 1536 ∨ here < a ∨ (isH s k = true ∧ here - 8 < a)) := by unfold badR; rw [← hae]
      obtain ⟨r, hr⟩ : ∃ r, r = a.tmod 8 := ⟨_, rfl⟩
      have hr0 : r = 0 ↔ a % 8 = 0 := by rw [hr, Int.tmod_eq_emod]; split <;> omega
      have rm : a.tmod 8 = r := hr.symm
      replace hae := Lib.hid hae
      replace hq := Lib.hid hq
      clear hr hAt
      by_cases c1 : r = 0
      · have t2 : (r != 0) = false := by simp; exact c1
        by_cases c2 : a < 1536
        · have t3 : (a < 1536) = True := eq_true c2
          clear hS hit
          exact absurd (show badR M here q (isH s k) by rw [hbd]; first | (right; left; exact c2) | (right; right; left; exact c3) | (right; right; right; exact ⟨(isH_iff s k hlt).2 c4, c5⟩) | (left; exact fun h => c1 (hr0.2 h))) (by rw [hq.out]; exact hok.out k hlt)
        · have t3 : (a < 1536) = False := eq_false c2
          by_cases c3 : here < a
          · have t4 : (here < a) = True := eq_true c3
            clear hS hit
            exact absurd (show badR M here q (isH s k) by rw [hbd]; first | (right; left; exact c2) | (right; right; left; exact c3) | (right; right; right; exact ⟨(isH_iff s k hlt).2 c4, c5⟩) | (left; exact fun h => c1 (hr0.2 h))) (by rw [hq.out]; exact hok.out k hlt)
          · have t4 : (here < a) = False := eq_false c3
            have w8 : IntKind.i64.wrap (here - 8) = here - 8 := by rw [IntKind.wrap_i64]; omega
            have i1' : (0 : Int) ≤ (k : Int) := by omega
            have i2' : (k : Int) < (s.size : Int) := by omega
            clear hS hit
            by_cases c4 : ((s[k]'hlt).toNat : Int) = 104
            · have t5 : ((((s[k]'hlt).toNat : Int)) == 104) = true := by simp [c4]
              have t5' : (((s[k]'hlt).toNat : Int) = 104) = True := eq_true c4
              by_cases c5 : here - 8 < a
              · have t6 : (here - 8 < a) = True := eq_true c5
                exact absurd (show badR M here q (isH s k) by rw [hbd]; first | (right; left; exact c2) | (right; right; left; exact c3) | (right; right; right; exact ⟨(isH_iff s k hlt).2 c4, c5⟩) | (left; exact fun h => c1 (hr0.2 h))) (by rw [hq.out]; exact hok.out k hlt)
              · have hgn := Lib.hid (good_next hgood (by rw [← hq.out, hbd, isH_iff s k hlt]; have := hr0.1 c1; omega))
                have t6 : (here - 8 < a) = False := eq_false c5
                go_upto_region 15 with (go_at_call 36; refine (hSi.read (fun O h => hAq.out _ O h)).mono ?_; rintro e w7 ⟨rfl, hS2⟩; clear hSi; have hSi := hS2; clear hS2)
                have hSv := hSi.keep (L := ((Kp.emp.and (.blk N #[.string nm, .int .i64 i1, .int .i64 i2, .bool b3, .bool b4] 64)).and (.it D s (k + 1))).and (.vs 1 (.slice ad k cap) k (ic (adL M s.size k)))) fun O h => (h.left.left.and h.right).and h.left.right
                have hSa := hSv.alloc (.cells #[.int .i64 a] 2)
                obtain ⟨v', w9, hrn, hS4, hown4, hsz⟩ := Onr.appendVs (P := Try.prog) (ty := 24) hSa hown ((Vs.lit1 _ (.int .i64 a) _ rfl).src (t := 24) Try.underlying24) Try.underlying24 infoI rfl (by omega) (by omega) (by omega)
                obtain ⟨a', c', rfl, hcap'⟩ := hS4.fact.2.form
                have hT4 := Lib.hid (show Onr w w9 B rb M R (((Kp.emp.and (.blk N #[.string nm, .int .i64 i1, .int .i64 i2, .bool b3, .bool b4] 64)).and (.it D s (k + 1))).and (.vs 1 (.slice a' (k + 1) c') (k + 1) (ic (adL M s.size (k + 1))))) from by
                  have e : ic (adL M s.size k) ++ [Value.int .i64 a] = ic (adL M s.size (k + 1)) := by rw [adL_succ, ← hq.out, ← hae.out]; simp [ic]
                  rw [← e]; exact hS4)
                have hT5 := Lib.hid hown4
                clear hSi hSv hSa hS4 hown hown4 hcap' hsz
                go_wp2_with (at_builtin; refine wpList_append_bs rfl _ _ 24 rfl hrn rfl rfl ?_)
                go_roundw
                case rel => exact ⟨k + 1, hlt, hgn.out, hT4.out, hT5.out⟩
                case measure => simp [lnOf]; omega
            · have hgn := Lib.hid (good_next hgood (by rw [← hq.out, hbd, isH_iff s k hlt]; have := hr0.1 c1; omega))
              have t5 : ((((s[k]'hlt).toNat : Int)) == 104) = false := by simp [c4]
              have t5' : (((s[k]'hlt).toNat : Int) = 104) = False := eq_false c4
              go_upto_region 15 with (go_at_call 36; refine (hSi.read (fun O h => hAq.out _ O h)).mono ?_; rintro e w7 ⟨rfl, hS2⟩; clear hSi; have hSi := hS2; clear hS2)
              have hSv := hSi.keep (L := ((Kp.emp.and (.blk N #[.string nm, .int .i64 i1, .int .i64 i2, .bool b3, .bool b4] 64)).and (.it D s (k + 1))).and (.vs 1 (.slice ad k cap) k (ic (adL M s.size k)))) fun O h => (h.left.left.and h.right).and h.left.right
              have hSa := hSv.alloc (.cells #[.int .i64 a] 2)
              obtain ⟨v', w9, hrn, hS4, hown4, hsz⟩ := Onr.appendVs (P := Try.prog) (ty := 24) hSa hown ((Vs.lit1 _ (.int .i64 a) _ rfl).src (t := 24) Try.underlying24) Try.underlying24 infoI rfl (by omega) (by omega) (by omega)
              obtain ⟨a', c', rfl, hcap'⟩ := hS4.fact.2.form
              have hT4 := Lib.hid (show Onr w w9 B rb M R (((Kp.emp.and (.blk N #[.string nm, .int .i64 i1, .int .i64 i2, .bool b3, .bool b4] 64)).and (.it D s (k + 1))).and (.vs 1 (.slice a' (k + 1) c') (k + 1) (ic (adL M s.size (k + 1))))) from by
                have e : ic (adL M s.size k) ++ [Value.int .i64 a] = ic (adL M s.size (k + 1)) := by rw [adL_succ, ← hq.out, ← hae.out]; simp [ic]
                rw [← e]; exact hS4)
              have hT5 := Lib.hid hown4
              clear hSi hSv hSa hS4 hown hown4 hcap' hsz
              go_wp2_with (at_builtin; refine wpList_append_bs rfl _ _ 24 rfl hrn rfl rfl ?_)
              go_roundw
              case rel => exact ⟨k + 1, hlt, hgn.out, hT4.out, hT5.out⟩
              case measure => simp [lnOf]; omega
      · have t2 : (r != 0) = true := by simp; exact c1
        clear hS hit
        exact absurd (show badR M here q (isH s k) by rw [hbd]; first | (right; left; exact c2) | (right; right; left; exact c3) | (right; right; right; exact ⟨(isH_iff s k hlt).2 c4, c5⟩) | (left; exact fun h => c1 (hr0.2 h))) (by rw [hq.out]; exact hok.out k hlt)
    · have hke : k = s.size := by omega
      subst hke
      have hit := hS.fact.1.2
      have hx := run_next_end_at (P := Try.prog) _ D s s.size 0 hit (by omega)
      have hRv := Lib.hid (show Rv wr 1 (.slice ad s.size cap) s.size (ic (adL M s.size s.size)) from (show Vs _ 0 1 _ _ _ from hS.fact.2).rv)
      obtain ⟨p0, -⟩ := (show Blk _ N _ _ from hS.fact.1.1.2).five
      clear hgood hown hit hk hlt hok ha
      go_upto_region 17 with (go_at_call 37; refine (hM.out _ _ _ _ rfl hRv.out).mono ?_; rintro e w7 ⟨cv, lv, rfl, hc, hl, hdj, hb⟩; have hS2 := hS.made hb hc hl; obtain ⟨ac, cc, rfl, -⟩ := hc.form; obtain ⟨al, c2, rfl, -⟩ := hl.form; clear hc hl hdj hb hS; have hS := hS2.new #[.string ⟨#[]⟩, .slice ac cl.length cc, .slice al ll.length c2, .int .i64 hole, .int .i64 tgt] 77; clear hS2)
      clear hx p0
      obtain ⟨P, hP⟩ : ∃ P, P = w7.heap.size := ⟨_, rfl⟩
      obtain ⟨w8, hw8⟩ : ∃ w8, w8 = w7.alloc (.cells #[.string ⟨#[]⟩, .slice ac cl.length cc, .slice al ll.length c2, .int .i64 hole, .int .i64 tgt] 77) := ⟨_, rfl⟩
      rw [← hw8, ← hP] at hS ⊢
      clear hw8 hP
      obtain ⟨y0, y1, y2, y3, y4, -⟩ := (show Blk _ P #[.string ⟨#[]⟩, .slice ac cl.length cc, .slice al ll.length c2, .int .i64 hole, .int .i64 tgt] 77 from hS.fact.2).five
      have hdb' := hdb.out
      obtain ⟨r, hr⟩ : ∃ r, r = here.tmod 8 := ⟨_, rfl⟩
      have hr0 : r = 0 ↔ here % 8 = 0 := by rw [hr, Int.tmod_eq_emod]; split <;> omega
      have rm : here.tmod 8 = r := hr.symm
      have w1 : IntKind.i64.wrap (5632 - here) = 5632 - here := by rw [IntKind.wrap_i64]; omega
      obtain ⟨f, hf⟩ : ∃ f, f = 5632 - here := ⟨_, rfl⟩
      have w1' : IntKind.i64.wrap (5632 - here) = f := by rw [hf]; exact w1
      have f1 : here = 5632 - f := by omega
      obtain ⟨q, hq⟩ : ∃ q, q = f / 8 := ⟨_, rfl⟩
      have q1 : f.tdiv 8 = q := by rw [hq]; exact Int.tdiv_eq_ediv_of_nonneg (by omega)
      have q2 : f / 8 = q := hq.symm
      have q3 : IntKind.i64.wrap q = q := by rw [IntKind.wrap_i64]; omega
      have wc : IntKind.i64.wrap (cl.length : Int) = (cl.length : Int) := by rw [IntKind.wrap_i64]; omega
      have v1 : IntKind.i64.wrap (d - (s.size : Int)) = d - (s.size : Int) := by rw [IntKind.wrap_i64]; omega
      obtain ⟨d1, hd1⟩ : ∃ d1, d1 = d - (s.size : Int) := ⟨_, rfl⟩
      have v1' : IntKind.i64.wrap (d - (s.size : Int)) = d1 := by rw [hd1]; exact v1
      have v2 : IntKind.i64.wrap (d1 + (ll.length : Int)) = d1 + (ll.length : Int) := by rw [IntKind.wrap_i64]; omega
      obtain ⟨d2, hd2⟩ : ∃ d2, d2 = d1 + (ll.length : Int) := ⟨_, rfl⟩
      have v2' : IntKind.i64.wrap (d1 + (ll.length : Int)) = d2 := by rw [hd2]; exact v2
      have e8 := Lib.hid (show (q < (cl.length : Int)) ↔ 5632 - here < 8 * (cl.length : Int) by omega)
      have e32 := Lib.hid (show (32 < d2) ↔ 32 < d - (s.size : Int) + (ll.length : Int) by omega)
      replace hcl := Lib.hid hcl
      replace hr0 := Lib.hid hr0
      have hqc := Lib.hid (show cl = [] → ¬ q < (cl.length : Int) by intro e; rw [e]; simp; omega)
      clear w1 hf f1 hq v1 hd1 v2 hd2 hr hdb hdb' hll hs2
      by_cases hc : cl = []
      · have t0 : (0 < (cl.length : Int)) = False := by rw [hc]; simp
        have t0' : (0 < cl.length) = False := by rw [hc]; simp
        have c2 := hqc.out hc
        have t2 : (q < (cl.length : Int)) = False := eq_false c2
        have c2' := (not_congr e8.out).1 c2
        by_cases c3 : 32 < d2
        · have c3' := e32.out.1 c3
          have t3 : (32 < d2) = True := eq_true c3
          have ev : t = (-3) := by rw [ht.out]; rw [if_neg (fun h => h.1 hc), if_neg c2', if_pos c3']
          have eZ := hZ.out
          rw [ev, if_neg (by decide)] at eZ
          clear hZ
          subst ev
          subst eZ
          clear hc c2 c2' c3 c3' hF
          go_upto_region 21 with fail
          clear y0 y1 y2 y3 y4
          replace hS := hS.drew
          refine wp_region_noPanic ?_
          refine wp_region_held_drew (S := (fun w9 => Blk w9 P #[.string ⟨#[]⟩, .slice ac cl.length cc, .slice al ll.length c2, .int .i64 hole, .int .i64 tgt] 77)) (by kernel_rfl) ?_ (fun hHeld => ?_)
          · (try dsimp only); exact hS.fact.2
          refine wpAnyH_take (i := 0) (oi := { dst := some 96, op := Go.Op.move (Go.Operand.tmp 0), type := 28, pos := "ref.go:94", after := #[], guard := none }) (v := ?v1) rfl (by kernel_rfl) (by kernel_rfl) (by kernel_rfl) (fun _ _ _ h => h) (Or.inl ⟨by rfl, ?hy1⟩) (by assumption) ?rest1
          case hy1 => (intro w hSw; (try dsimp only at hSw); obtain ⟨y0, y1, y2, y3, y4, -⟩ := (show Blk w P #[.string ⟨#[]⟩, .slice ac cl.length cc, .slice al ll.length c2, .int .i64 hole, .int .i64 tgt] 77 from hSw).five; go_simp <;> with_reducible rfl)
          try simp only [Act.put, List.setIfInBounds_toArray, List.set_cons_zero, List.set_cons_succ]
          refine wpAnyH_take (i := 2) (oi := { dst := some 98, op := Go.Op.move (Go.Operand.tmp 7), type := 9, pos := "ref.go:94", after := #[], guard := none }) (v := ?v2) rfl (by kernel_rfl) (by kernel_rfl) (by kernel_rfl) (fun _ _ _ h => h) (Or.inl ⟨by rfl, ?hy2⟩) (by assumption) ?rest2
          case hy2 => (intro w hSw; (try dsimp only at hSw); obtain ⟨y0, y1, y2, y3, y4, -⟩ := (show Blk w P #[.string ⟨#[]⟩, .slice ac cl.length cc, .slice al ll.length c2, .int .i64 hole, .int .i64 tgt] 77 from hSw).five; go_simp <;> with_reducible rfl)
          try simp only [Act.put, List.setIfInBounds_toArray, List.set_cons_zero, List.set_cons_succ]
          refine wpAnyH_take (i := 3) (oi := { dst := some 99, op := Go.Op.call { callee := Go.Callee.builtin Go.Builtin.len, args := #[Go.Operand.tmp 98], argTypes := #[9] }, type := 3, pos := "ref.go:94", after := #[{ on := 2, ground := Go.Ground.data }], guard := none }) (v := ?v3) rfl (by kernel_rfl) (by kernel_rfl) (by kernel_rfl) (fun _ _ _ h => h) (Or.inl ⟨by rfl, ?hy3⟩) (by assumption) ?rest3
          case hy3 => (intro w hSw; (try dsimp only at hSw); obtain ⟨y0, y1, y2, y3, y4, -⟩ := (show Blk w P #[.string ⟨#[]⟩, .slice ac cl.length cc, .slice al ll.length c2, .int .i64 hole, .int .i64 tgt] 77 from hSw).five; go_simp <;> with_reducible rfl)
          try simp only [Act.put, List.setIfInBounds_toArray, List.set_cons_zero, List.set_cons_succ]
          refine wpAnyH_take (i := 5) (oi := { dst := some 101, op := Go.Op.fieldAddr 77 (Go.Operand.tmp 13) 2, type := 0, pos := "ref.go:94", after := #[], guard := none }) (v := ?v4) rfl (by kernel_rfl) (by kernel_rfl) (by kernel_rfl) (fun _ _ _ h => h) (Or.inl ⟨by rfl, ?hy4⟩) (by assumption) ?rest4
          case hy4 => (intro w hSw; (try dsimp only at hSw); obtain ⟨y0, y1, y2, y3, y4, -⟩ := (show Blk w P #[.string ⟨#[]⟩, .slice ac cl.length cc, .slice al ll.length c2, .int .i64 hole, .int .i64 tgt] 77 from hSw).five; go_simp <;> with_reducible rfl)
          try simp only [Act.put, List.setIfInBounds_toArray, List.set_cons_zero, List.set_cons_succ]
          refine wpAnyH_take (i := 6) (oi := { dst := some 102, op := Go.Op.load 24 (Go.Operand.tmp 101), type := 24, pos := "ref.go:94", after := #[{ on := 5, ground := Go.Ground.data }], guard := none }) (v := ?v5) rfl (by kernel_rfl) (by kernel_rfl) (by kernel_rfl) (fun _ _ _ h => h) (Or.inl ⟨by rfl, ?hy5⟩) (by assumption) ?rest5
          case hy5 => (intro w hSw; (try dsimp only at hSw); obtain ⟨y0, y1, y2, y3, y4, -⟩ := (show Blk w P #[.string ⟨#[]⟩, .slice ac cl.length cc, .slice al ll.length c2, .int .i64 hole, .int .i64 tgt] 77 from hSw).five; go_simp <;> with_reducible rfl)
          try simp only [Act.put, List.setIfInBounds_toArray, List.set_cons_zero, List.set_cons_succ]
          refine wpAnyH_take (i := 7) (oi := { dst := some 103, op := Go.Op.call { callee := Go.Callee.builtin Go.Builtin.len, args := #[Go.Operand.tmp 102], argTypes := #[24] }, type := 3, pos := "ref.go:94", after := #[{ on := 6, ground := Go.Ground.data }], guard := none }) (v := ?v6) rfl (by kernel_rfl) (by kernel_rfl) (by kernel_rfl) (fun _ _ _ h => h) (Or.inl ⟨by rfl, ?hy6⟩) (by assumption) ?rest6
          case hy6 => (intro w hSw; (try dsimp only at hSw); obtain ⟨y0, y1, y2, y3, y4, -⟩ := (show Blk w P #[.string ⟨#[]⟩, .slice ac cl.length cc, .slice al ll.length c2, .int .i64 hole, .int .i64 tgt] 77 from hSw).five; go_simp <;> with_reducible rfl)
          try simp only [Act.put, List.setIfInBounds_toArray, List.set_cons_zero, List.set_cons_succ]
          refine wpAnyH_ready (rs := [1]) (by kernel_rfl) (by simp) ?_
          refine AllReadyH.cons (o := { dst := some 97, op := Go.Op.call { callee := Go.Callee.value (Go.Operand.func 34), args := #[Go.Operand.tmp 96], argTypes := #[28] }, type := 3, pos := "ref.go:94", after := #[{ on := 0, ground := Go.Ground.data }], guard := none }) rfl (fun K hK => ?_) AllReadyH.nil
          go_simp
          go_at_call 34; refine (hS.read (fun O h => hD.out _ O h)).mono ?_; rintro e w9 ⟨rfl, hS2⟩; clear hS; have hS := hS2; clear hS2
          refine hK.out _ _ ?_ (fun hHeld2 => ?_)
          · (try dsimp only); exact hS.fact.2
          clear hK K hHeld
          have hHeld := hHeld2
          clear hHeld2
          try simp only [Act.put, List.setIfInBounds_toArray, List.set_cons_zero, List.set_cons_succ]
          refine wpAnyH_take (i := 4) (oi := { dst := some 100, op := Go.Op.binOp Go.BinOp.sub 3 (Go.Operand.tmp 97) (Go.Operand.tmp 99) 3, type := 3, pos := "ref.go:94", after := #[{ on := 1, ground := Go.Ground.data }, { on := 3, ground := Go.Ground.data }], guard := none }) (v := ?v7) rfl (by kernel_rfl) (by kernel_rfl) (by kernel_rfl) (fun _ _ _ h => h) (Or.inl ⟨by rfl, ?hy7⟩) (by assumption) ?rest7
          case hy7 => (intro w hSw; (try dsimp only at hSw); obtain ⟨y0, y1, y2, y3, y4, -⟩ := (show Blk w P #[.string ⟨#[]⟩, .slice ac cl.length cc, .slice al ll.length c2, .int .i64 hole, .int .i64 tgt] 77 from hSw).five; go_simp <;> with_reducible rfl)
          try simp only [Act.put, List.setIfInBounds_toArray, List.set_cons_zero, List.set_cons_succ]
          refine wpAnyH_take (i := 8) (oi := { dst := some 104, op := Go.Op.binOp Go.BinOp.add 3 (Go.Operand.tmp 100) (Go.Operand.tmp 103) 3, type := 3, pos := "ref.go:94", after := #[{ on := 4, ground := Go.Ground.data }, { on := 7, ground := Go.Ground.data }], guard := none }) (v := ?v8) rfl (by kernel_rfl) (by kernel_rfl) (by kernel_rfl) (fun _ _ _ h => h) (Or.inl ⟨by rfl, ?hy8⟩) (by assumption) ?rest8
          case hy8 => (intro w hSw; (try dsimp only at hSw); obtain ⟨y0, y1, y2, y3, y4, -⟩ := (show Blk w P #[.string ⟨#[]⟩, .slice ac cl.length cc, .slice al ll.length c2, .int .i64 hole, .int .i64 tgt] 77 from hSw).five; go_simp <;> with_reducible rfl)
          try simp only [Act.put, List.setIfInBounds_toArray, List.set_cons_zero, List.set_cons_succ]
          refine wpAnyH_take (i := 9) (oi := { dst := some 105, op := Go.Op.binOp Go.BinOp.gtr 3 (Go.Operand.tmp 104) (Go.Operand.const (Go.Value.int Go.IntKind.i64 32)) 3, type := 4, pos := "ref.go:94", after := #[{ on := 8, ground := Go.Ground.data }], guard := none }) (v := ?v9) rfl (by kernel_rfl) (by kernel_rfl) (by kernel_rfl) (fun _ _ _ h => h) (Or.inl ⟨by rfl, ?hy9⟩) (by assumption) ?rest9
          case hy9 => (intro w hSw; (try dsimp only at hSw); obtain ⟨y0, y1, y2, y3, y4, -⟩ := (show Blk w P #[.string ⟨#[]⟩, .slice ac cl.length cc, .slice al ll.length c2, .int .i64 hole, .int .i64 tgt] 77 from hSw).five; go_simp <;> with_reducible rfl)
          try simp only [Act.put, List.setIfInBounds_toArray, List.set_cons_zero, List.set_cons_succ]
          refine wpAnyH_done (by kernel_rfl) ?_ _
          refine NoPanic.normal ?_
          go_wp2
          go_ret
          exact hS.refQ _
        · have c3' := (not_congr e32.out).1 c3
          have t3 : (32 < d2) = False := eq_false c3
          have ev : t = 0 := by rw [ht.out]; rw [if_neg (fun h => h.1 hc), if_neg c2', if_neg c3']
          have eZ := hZ.out
          rw [ev, if_pos rfl] at eZ
          clear hZ
          subst ev
          subst eZ
          clear c2 c2' c3 c3'
          by_cases hz : hole = 0
          · have th : (hole != 0) = false := by simp; exact hz
            have ef := hF.out
            unfold holM comM at ef
            rw [if_pos hc] at ef
            rw [if_pos hz] at ef
            subst ef
            clear hz hc hF
            go_upto_region 21 with fail
            clear y0 y1 y2 y3 y4
            replace hS := hS.drew
            refine wp_region_noPanic ?_
            refine wp_region_held_drew (S := (fun w9 => Blk w9 P #[.string ⟨#[]⟩, .slice ac cl.length cc, .slice al ll.length c2, .int .i64 hole, .int .i64 tgt] 77)) (by kernel_rfl) ?_ (fun hHeld => ?_)
            · (try dsimp only); exact hS.fact.2
            refine wpAnyH_take (i := 0) (oi := { dst := some 96, op := Go.Op.move (Go.Operand.tmp 0), type := 28, pos := "ref.go:94", after := #[], guard := none }) (v := ?v10) rfl (by kernel_rfl) (by kernel_rfl) (by kernel_rfl) (fun _ _ _ h => h) (Or.inl ⟨by rfl, ?hy10⟩) (by assumption) ?rest10
            case hy10 => (intro w hSw; (try dsimp only at hSw); obtain ⟨y0, y1, y2, y3, y4, -⟩ := (show Blk w P #[.string ⟨#[]⟩, .slice ac cl.length cc, .slice al ll.length c2, .int .i64 hole, .int .i64 tgt] 77 from hSw).five; go_simp <;> with_reducible rfl)
            try simp only [Act.put, List.setIfInBounds_toArray, List.set_cons_zero, List.set_cons_succ]
            refine wpAnyH_take (i := 2) (oi := { dst := some 98, op := Go.Op.move (Go.Operand.tmp 7), type := 9, pos := "ref.go:94", after := #[], guard := none }) (v := ?v11) rfl (by kernel_rfl) (by kernel_rfl) (by kernel_rfl) (fun _ _ _ h => h) (Or.inl ⟨by rfl, ?hy11⟩) (by assumption) ?rest11
            case hy11 => (intro w hSw; (try dsimp only at hSw); obtain ⟨y0, y1, y2, y3, y4, -⟩ := (show Blk w P #[.string ⟨#[]⟩, .slice ac cl.length cc, .slice al ll.length c2, .int .i64 hole, .int .i64 tgt] 77 from hSw).five; go_simp <;> with_reducible rfl)
            try simp only [Act.put, List.setIfInBounds_toArray, List.set_cons_zero, List.set_cons_succ]
            refine wpAnyH_take (i := 3) (oi := { dst := some 99, op := Go.Op.call { callee := Go.Callee.builtin Go.Builtin.len, args := #[Go.Operand.tmp 98], argTypes := #[9] }, type := 3, pos := "ref.go:94", after := #[{ on := 2, ground := Go.Ground.data }], guard := none }) (v := ?v12) rfl (by kernel_rfl) (by kernel_rfl) (by kernel_rfl) (fun _ _ _ h => h) (Or.inl ⟨by rfl, ?hy12⟩) (by assumption) ?rest12
            case hy12 => (intro w hSw; (try dsimp only at hSw); obtain ⟨y0, y1, y2, y3, y4, -⟩ := (show Blk w P #[.string ⟨#[]⟩, .slice ac cl.length cc, .slice al ll.length c2, .int .i64 hole, .int .i64 tgt] 77 from hSw).five; go_simp <;> with_reducible rfl)
            try simp only [Act.put, List.setIfInBounds_toArray, List.set_cons_zero, List.set_cons_succ]
            refine wpAnyH_take (i := 5) (oi := { dst := some 101, op := Go.Op.fieldAddr 77 (Go.Operand.tmp 13) 2, type := 0, pos := "ref.go:94", after := #[], guard := none }) (v := ?v13) rfl (by kernel_rfl) (by kernel_rfl) (by kernel_rfl) (fun _ _ _ h => h) (Or.inl ⟨by rfl, ?hy13⟩) (by assumption) ?rest13
            case hy13 => (intro w hSw; (try dsimp only at hSw); obtain ⟨y0, y1, y2, y3, y4, -⟩ := (show Blk w P #[.string ⟨#[]⟩, .slice ac cl.length cc, .slice al ll.length c2, .int .i64 hole, .int .i64 tgt] 77 from hSw).five; go_simp <;> with_reducible rfl)
            try simp only [Act.put, List.setIfInBounds_toArray, List.set_cons_zero, List.set_cons_succ]
            refine wpAnyH_take (i := 6) (oi := { dst := some 102, op := Go.Op.load 24 (Go.Operand.tmp 101), type := 24, pos := "ref.go:94", after := #[{ on := 5, ground := Go.Ground.data }], guard := none }) (v := ?v14) rfl (by kernel_rfl) (by kernel_rfl) (by kernel_rfl) (fun _ _ _ h => h) (Or.inl ⟨by rfl, ?hy14⟩) (by assumption) ?rest14
            case hy14 => (intro w hSw; (try dsimp only at hSw); obtain ⟨y0, y1, y2, y3, y4, -⟩ := (show Blk w P #[.string ⟨#[]⟩, .slice ac cl.length cc, .slice al ll.length c2, .int .i64 hole, .int .i64 tgt] 77 from hSw).five; go_simp <;> with_reducible rfl)
            try simp only [Act.put, List.setIfInBounds_toArray, List.set_cons_zero, List.set_cons_succ]
            refine wpAnyH_take (i := 7) (oi := { dst := some 103, op := Go.Op.call { callee := Go.Callee.builtin Go.Builtin.len, args := #[Go.Operand.tmp 102], argTypes := #[24] }, type := 3, pos := "ref.go:94", after := #[{ on := 6, ground := Go.Ground.data }], guard := none }) (v := ?v15) rfl (by kernel_rfl) (by kernel_rfl) (by kernel_rfl) (fun _ _ _ h => h) (Or.inl ⟨by rfl, ?hy15⟩) (by assumption) ?rest15
            case hy15 => (intro w hSw; (try dsimp only at hSw); obtain ⟨y0, y1, y2, y3, y4, -⟩ := (show Blk w P #[.string ⟨#[]⟩, .slice ac cl.length cc, .slice al ll.length c2, .int .i64 hole, .int .i64 tgt] 77 from hSw).five; go_simp <;> with_reducible rfl)
            try simp only [Act.put, List.setIfInBounds_toArray, List.set_cons_zero, List.set_cons_succ]
            refine wpAnyH_ready (rs := [1]) (by kernel_rfl) (by simp) ?_
            refine AllReadyH.cons (o := { dst := some 97, op := Go.Op.call { callee := Go.Callee.value (Go.Operand.func 34), args := #[Go.Operand.tmp 96], argTypes := #[28] }, type := 3, pos := "ref.go:94", after := #[{ on := 0, ground := Go.Ground.data }], guard := none }) rfl (fun K hK => ?_) AllReadyH.nil
            go_simp
            go_at_call 34; refine (hS.read (fun O h => hD.out _ O h)).mono ?_; rintro e w9 ⟨rfl, hS2⟩; clear hS; have hS := hS2; clear hS2
            refine hK.out _ _ ?_ (fun hHeld2 => ?_)
            · (try dsimp only); exact hS.fact.2
            clear hK K hHeld
            have hHeld := hHeld2
            clear hHeld2
            try simp only [Act.put, List.setIfInBounds_toArray, List.set_cons_zero, List.set_cons_succ]
            refine wpAnyH_take (i := 4) (oi := { dst := some 100, op := Go.Op.binOp Go.BinOp.sub 3 (Go.Operand.tmp 97) (Go.Operand.tmp 99) 3, type := 3, pos := "ref.go:94", after := #[{ on := 1, ground := Go.Ground.data }, { on := 3, ground := Go.Ground.data }], guard := none }) (v := ?v16) rfl (by kernel_rfl) (by kernel_rfl) (by kernel_rfl) (fun _ _ _ h => h) (Or.inl ⟨by rfl, ?hy16⟩) (by assumption) ?rest16
            case hy16 => (intro w hSw; (try dsimp only at hSw); obtain ⟨y0, y1, y2, y3, y4, -⟩ := (show Blk w P #[.string ⟨#[]⟩, .slice ac cl.length cc, .slice al ll.length c2, .int .i64 hole, .int .i64 tgt] 77 from hSw).five; go_simp <;> with_reducible rfl)
            try simp only [Act.put, List.setIfInBounds_toArray, List.set_cons_zero, List.set_cons_succ]
            refine wpAnyH_take (i := 8) (oi := { dst := some 104, op := Go.Op.binOp Go.BinOp.add 3 (Go.Operand.tmp 100) (Go.Operand.tmp 103) 3, type := 3, pos := "ref.go:94", after := #[{ on := 4, ground := Go.Ground.data }, { on := 7, ground := Go.Ground.data }], guard := none }) (v := ?v17) rfl (by kernel_rfl) (by kernel_rfl) (by kernel_rfl) (fun _ _ _ h => h) (Or.inl ⟨by rfl, ?hy17⟩) (by assumption) ?rest17
            case hy17 => (intro w hSw; (try dsimp only at hSw); obtain ⟨y0, y1, y2, y3, y4, -⟩ := (show Blk w P #[.string ⟨#[]⟩, .slice ac cl.length cc, .slice al ll.length c2, .int .i64 hole, .int .i64 tgt] 77 from hSw).five; go_simp <;> with_reducible rfl)
            try simp only [Act.put, List.setIfInBounds_toArray, List.set_cons_zero, List.set_cons_succ]
            refine wpAnyH_take (i := 9) (oi := { dst := some 105, op := Go.Op.binOp Go.BinOp.gtr 3 (Go.Operand.tmp 104) (Go.Operand.const (Go.Value.int Go.IntKind.i64 32)) 3, type := 4, pos := "ref.go:94", after := #[{ on := 8, ground := Go.Ground.data }], guard := none }) (v := ?v18) rfl (by kernel_rfl) (by kernel_rfl) (by kernel_rfl) (fun _ _ _ h => h) (Or.inl ⟨by rfl, ?hy18⟩) (by assumption) ?rest18
            case hy18 => (intro w hSw; (try dsimp only at hSw); obtain ⟨y0, y1, y2, y3, y4, -⟩ := (show Blk w P #[.string ⟨#[]⟩, .slice ac cl.length cc, .slice al ll.length c2, .int .i64 hole, .int .i64 tgt] 77 from hSw).five; go_simp <;> with_reducible rfl)
            try simp only [Act.put, List.setIfInBounds_toArray, List.set_cons_zero, List.set_cons_succ]
            refine wpAnyH_done (by kernel_rfl) ?_ _
            refine NoPanic.normal ?_
            go_wp2_with (first
                | (go_at_call 38; refine (hS.refX (fun O h hb => hTk.out _ O h)).mono ?_; rintro e w9 ⟨x, rfl, hSx⟩; have hS2 := hSx.weak; clear hSx; clear hS; have hS := hS2; clear hS2; obtain ⟨y0, y1, y2, y3, y4, -⟩ := (show Blk _ P #[.string ⟨#[]⟩, .slice ac cl.length cc, .slice al ll.length c2, .int .i64 hole, .int .i64 tgt] 77 from hS.fact.2).five)
                | (go_at_call 39; refine (hS.refK2 (fun O h hb hk => rComma h hb hS.len (Keep.vsRv hk.left.left.right) hcl.out)).mono ?_; rintro e w9 ⟨rfl, hS2⟩; clear hS; have hS := hS2; clear hS2; clear y0 y1 y2 y3 y4; obtain ⟨y0, y1, y2, y3, y4, -⟩ := (show Blk _ P #[.string ⟨#[]⟩, .slice ac cl.length cc, .slice al ll.length c2, .int .i64 hole, .int .i64 tgt] 77 from hS.fact.2).five)
                | (go_at_call 23; refine (hS.ref (fun O h hb => rSet h hole tgt hhi'.out)).mono ?_; rintro e w9 ⟨rfl, hS2⟩; clear hS; have hS := hS2; clear hS2; clear y0 y1 y2 y3 y4; obtain ⟨y0, y1, y2, y3, y4, -⟩ := (show Blk _ P #[.string ⟨#[]⟩, .slice ac cl.length cc, .slice al ll.length c2, .int .i64 hole, .int .i64 tgt] 77 from hS.fact.2).five)
                | (go_at_call 40; refine (hS.refK2 (fun O h hb hk => rLays h (Keep.vsRv hk.left.right))).mono ?_; rintro e w9 ⟨rfl, hS2⟩; clear hS; have hS := hS2; clear hS2))
            go_ret
            exact hS.refQ _
          · have th : (hole != 0) = true := by simp; exact hz
            have ef := hF.out
            unfold holM comM at ef
            rw [if_pos hc] at ef
            rw [if_neg hz] at ef
            subst ef
            clear hz hc hF
            go_upto_region 21 with fail
            clear y0 y1 y2 y3 y4
            replace hS := hS.drew
            refine wp_region_noPanic ?_
            refine wp_region_held_drew (S := (fun w9 => Blk w9 P #[.string ⟨#[]⟩, .slice ac cl.length cc, .slice al ll.length c2, .int .i64 hole, .int .i64 tgt] 77)) (by kernel_rfl) ?_ (fun hHeld => ?_)
            · (try dsimp only); exact hS.fact.2
            refine wpAnyH_take (i := 0) (oi := { dst := some 96, op := Go.Op.move (Go.Operand.tmp 0), type := 28, pos := "ref.go:94", after := #[], guard := none }) (v := ?v19) rfl (by kernel_rfl) (by kernel_rfl) (by kernel_rfl) (fun _ _ _ h => h) (Or.inl ⟨by rfl, ?hy19⟩) (by assumption) ?rest19
            case hy19 => (intro w hSw; (try dsimp only at hSw); obtain ⟨y0, y1, y2, y3, y4, -⟩ := (show Blk w P #[.string ⟨#[]⟩, .slice ac cl.length cc, .slice al ll.length c2, .int .i64 hole, .int .i64 tgt] 77 from hSw).five; go_simp <;> with_reducible rfl)
            try simp only [Act.put, List.setIfInBounds_toArray, List.set_cons_zero, List.set_cons_succ]
            refine wpAnyH_take (i := 2) (oi := { dst := some 98, op := Go.Op.move (Go.Operand.tmp 7), type := 9, pos := "ref.go:94", after := #[], guard := none }) (v := ?v20) rfl (by kernel_rfl) (by kernel_rfl) (by kernel_rfl) (fun _ _ _ h => h) (Or.inl ⟨by rfl, ?hy20⟩) (by assumption) ?rest20
            case hy20 => (intro w hSw; (try dsimp only at hSw); obtain ⟨y0, y1, y2, y3, y4, -⟩ := (show Blk w P #[.string ⟨#[]⟩, .slice ac cl.length cc, .slice al ll.length c2, .int .i64 hole, .int .i64 tgt] 77 from hSw).five; go_simp <;> with_reducible rfl)
            try simp only [Act.put, List.setIfInBounds_toArray, List.set_cons_zero, List.set_cons_succ]
            refine wpAnyH_take (i := 3) (oi := { dst := some 99, op := Go.Op.call { callee := Go.Callee.builtin Go.Builtin.len, args := #[Go.Operand.tmp 98], argTypes := #[9] }, type := 3, pos := "ref.go:94", after := #[{ on := 2, ground := Go.Ground.data }], guard := none }) (v := ?v21) rfl (by kernel_rfl) (by kernel_rfl) (by kernel_rfl) (fun _ _ _ h => h) (Or.inl ⟨by rfl, ?hy21⟩) (by assumption) ?rest21
            case hy21 => (intro w hSw; (try dsimp only at hSw); obtain ⟨y0, y1, y2, y3, y4, -⟩ := (show Blk w P #[.string ⟨#[]⟩, .slice ac cl.length cc, .slice al ll.length c2, .int .i64 hole, .int .i64 tgt] 77 from hSw).five; go_simp <;> with_reducible rfl)
            try simp only [Act.put, List.setIfInBounds_toArray, List.set_cons_zero, List.set_cons_succ]
            refine wpAnyH_take (i := 5) (oi := { dst := some 101, op := Go.Op.fieldAddr 77 (Go.Operand.tmp 13) 2, type := 0, pos := "ref.go:94", after := #[], guard := none }) (v := ?v22) rfl (by kernel_rfl) (by kernel_rfl) (by kernel_rfl) (fun _ _ _ h => h) (Or.inl ⟨by rfl, ?hy22⟩) (by assumption) ?rest22
            case hy22 => (intro w hSw; (try dsimp only at hSw); obtain ⟨y0, y1, y2, y3, y4, -⟩ := (show Blk w P #[.string ⟨#[]⟩, .slice ac cl.length cc, .slice al ll.length c2, .int .i64 hole, .int .i64 tgt] 77 from hSw).five; go_simp <;> with_reducible rfl)
            try simp only [Act.put, List.setIfInBounds_toArray, List.set_cons_zero, List.set_cons_succ]
            refine wpAnyH_take (i := 6) (oi := { dst := some 102, op := Go.Op.load 24 (Go.Operand.tmp 101), type := 24, pos := "ref.go:94", after := #[{ on := 5, ground := Go.Ground.data }], guard := none }) (v := ?v23) rfl (by kernel_rfl) (by kernel_rfl) (by kernel_rfl) (fun _ _ _ h => h) (Or.inl ⟨by rfl, ?hy23⟩) (by assumption) ?rest23
            case hy23 => (intro w hSw; (try dsimp only at hSw); obtain ⟨y0, y1, y2, y3, y4, -⟩ := (show Blk w P #[.string ⟨#[]⟩, .slice ac cl.length cc, .slice al ll.length c2, .int .i64 hole, .int .i64 tgt] 77 from hSw).five; go_simp <;> with_reducible rfl)
            try simp only [Act.put, List.setIfInBounds_toArray, List.set_cons_zero, List.set_cons_succ]
            refine wpAnyH_take (i := 7) (oi := { dst := some 103, op := Go.Op.call { callee := Go.Callee.builtin Go.Builtin.len, args := #[Go.Operand.tmp 102], argTypes := #[24] }, type := 3, pos := "ref.go:94", after := #[{ on := 6, ground := Go.Ground.data }], guard := none }) (v := ?v24) rfl (by kernel_rfl) (by kernel_rfl) (by kernel_rfl) (fun _ _ _ h => h) (Or.inl ⟨by rfl, ?hy24⟩) (by assumption) ?rest24
            case hy24 => (intro w hSw; (try dsimp only at hSw); obtain ⟨y0, y1, y2, y3, y4, -⟩ := (show Blk w P #[.string ⟨#[]⟩, .slice ac cl.length cc, .slice al ll.length c2, .int .i64 hole, .int .i64 tgt] 77 from hSw).five; go_simp <;> with_reducible rfl)
            try simp only [Act.put, List.setIfInBounds_toArray, List.set_cons_zero, List.set_cons_succ]
            refine wpAnyH_ready (rs := [1]) (by kernel_rfl) (by simp) ?_
            refine AllReadyH.cons (o := { dst := some 97, op := Go.Op.call { callee := Go.Callee.value (Go.Operand.func 34), args := #[Go.Operand.tmp 96], argTypes := #[28] }, type := 3, pos := "ref.go:94", after := #[{ on := 0, ground := Go.Ground.data }], guard := none }) rfl (fun K hK => ?_) AllReadyH.nil
            go_simp
            go_at_call 34; refine (hS.read (fun O h => hD.out _ O h)).mono ?_; rintro e w9 ⟨rfl, hS2⟩; clear hS; have hS := hS2; clear hS2
            refine hK.out _ _ ?_ (fun hHeld2 => ?_)
            · (try dsimp only); exact hS.fact.2
            clear hK K hHeld
            have hHeld := hHeld2
            clear hHeld2
            try simp only [Act.put, List.setIfInBounds_toArray, List.set_cons_zero, List.set_cons_succ]
            refine wpAnyH_take (i := 4) (oi := { dst := some 100, op := Go.Op.binOp Go.BinOp.sub 3 (Go.Operand.tmp 97) (Go.Operand.tmp 99) 3, type := 3, pos := "ref.go:94", after := #[{ on := 1, ground := Go.Ground.data }, { on := 3, ground := Go.Ground.data }], guard := none }) (v := ?v25) rfl (by kernel_rfl) (by kernel_rfl) (by kernel_rfl) (fun _ _ _ h => h) (Or.inl ⟨by rfl, ?hy25⟩) (by assumption) ?rest25
            case hy25 => (intro w hSw; (try dsimp only at hSw); obtain ⟨y0, y1, y2, y3, y4, -⟩ := (show Blk w P #[.string ⟨#[]⟩, .slice ac cl.length cc, .slice al ll.length c2, .int .i64 hole, .int .i64 tgt] 77 from hSw).five; go_simp <;> with_reducible rfl)
            try simp only [Act.put, List.setIfInBounds_toArray, List.set_cons_zero, List.set_cons_succ]
            refine wpAnyH_take (i := 8) (oi := { dst := some 104, op := Go.Op.binOp Go.BinOp.add 3 (Go.Operand.tmp 100) (Go.Operand.tmp 103) 3, type := 3, pos := "ref.go:94", after := #[{ on := 4, ground := Go.Ground.data }, { on := 7, ground := Go.Ground.data }], guard := none }) (v := ?v26) rfl (by kernel_rfl) (by kernel_rfl) (by kernel_rfl) (fun _ _ _ h => h) (Or.inl ⟨by rfl, ?hy26⟩) (by assumption) ?rest26
            case hy26 => (intro w hSw; (try dsimp only at hSw); obtain ⟨y0, y1, y2, y3, y4, -⟩ := (show Blk w P #[.string ⟨#[]⟩, .slice ac cl.length cc, .slice al ll.length c2, .int .i64 hole, .int .i64 tgt] 77 from hSw).five; go_simp <;> with_reducible rfl)
            try simp only [Act.put, List.setIfInBounds_toArray, List.set_cons_zero, List.set_cons_succ]
            refine wpAnyH_take (i := 9) (oi := { dst := some 105, op := Go.Op.binOp Go.BinOp.gtr 3 (Go.Operand.tmp 104) (Go.Operand.const (Go.Value.int Go.IntKind.i64 32)) 3, type := 4, pos := "ref.go:94", after := #[{ on := 8, ground := Go.Ground.data }], guard := none }) (v := ?v27) rfl (by kernel_rfl) (by kernel_rfl) (by kernel_rfl) (fun _ _ _ h => h) (Or.inl ⟨by rfl, ?hy27⟩) (by assumption) ?rest27
            case hy27 => (intro w hSw; (try dsimp only at hSw); obtain ⟨y0, y1, y2, y3, y4, -⟩ := (show Blk w P #[.string ⟨#[]⟩, .slice ac cl.length cc, .slice al ll.length c2, .int .i64 hole, .int .i64 tgt] 77 from hSw).five; go_simp <;> with_reducible rfl)
            try simp only [Act.put, List.setIfInBounds_toArray, List.set_cons_zero, List.set_cons_succ]
            refine wpAnyH_done (by kernel_rfl) ?_ _
            refine NoPanic.normal ?_
            go_wp2_with (first
                | (go_at_call 38; refine (hS.refX (fun O h hb => hTk.out _ O h)).mono ?_; rintro e w9 ⟨x, rfl, hSx⟩; have hS2 := hSx.weak; clear hSx; clear hS; have hS := hS2; clear hS2; obtain ⟨y0, y1, y2, y3, y4, -⟩ := (show Blk _ P #[.string ⟨#[]⟩, .slice ac cl.length cc, .slice al ll.length c2, .int .i64 hole, .int .i64 tgt] 77 from hS.fact.2).five)
                | (go_at_call 39; refine (hS.refK2 (fun O h hb hk => rComma h hb hS.len (Keep.vsRv hk.left.left.right) hcl.out)).mono ?_; rintro e w9 ⟨rfl, hS2⟩; clear hS; have hS := hS2; clear hS2; clear y0 y1 y2 y3 y4; obtain ⟨y0, y1, y2, y3, y4, -⟩ := (show Blk _ P #[.string ⟨#[]⟩, .slice ac cl.length cc, .slice al ll.length c2, .int .i64 hole, .int .i64 tgt] 77 from hS.fact.2).five)
                | (go_at_call 23; refine (hS.ref (fun O h hb => rSet h hole tgt hhi'.out)).mono ?_; rintro e w9 ⟨rfl, hS2⟩; clear hS; have hS := hS2; clear hS2; clear y0 y1 y2 y3 y4; obtain ⟨y0, y1, y2, y3, y4, -⟩ := (show Blk _ P #[.string ⟨#[]⟩, .slice ac cl.length cc, .slice al ll.length c2, .int .i64 hole, .int .i64 tgt] 77 from hS.fact.2).five)
                | (go_at_call 40; refine (hS.refK2 (fun O h hb hk => rLays h (Keep.vsRv hk.left.right))).mono ?_; rintro e w9 ⟨rfl, hS2⟩; clear hS; have hS := hS2; clear hS2))
            go_ret
            exact hS.refQ _
      · have h1 : 0 < cl.length := List.length_pos_iff.2 hc
        have t0 : (0 < (cl.length : Int)) = True := eq_true (by omega)
        have t0' : (0 < cl.length) = True := eq_true h1
        by_cases c1 : r = 0
        · have t1' : (r != 0) = false := by simp; exact c1
          have c1' := hr0.out.1 c1
          by_cases c2 : q < (cl.length : Int)
          · have c2' := e8.out.1 c2
            have t2 : (q < (cl.length : Int)) = True := eq_true c2
            have ev : t = (-8) := by rw [ht.out]; rw [if_neg (fun h => h.2 c1'), if_pos c2']
            have eZ := hZ.out
            rw [ev, if_neg (by decide)] at eZ
            clear hZ
            subst ev
            subst eZ
            clear hc h1 c1 c1' c2 c2' hF
            go_wp2
            go_ret
            exact hS.refQ _
          · have c2' := (not_congr e8.out).1 c2
            have t2 : (q < (cl.length : Int)) = False := eq_false c2
            by_cases c3 : 32 < d2
            · have c3' := e32.out.1 c3
              have t3 : (32 < d2) = True := eq_true c3
              have ev : t = (-3) := by rw [ht.out]; rw [if_neg (fun h => h.2 c1'), if_neg c2', if_pos c3']
              have eZ := hZ.out
              rw [ev, if_neg (by decide)] at eZ
              clear hZ
              subst ev
              subst eZ
              clear hc h1 c1 c1' c2 c2' c3 c3' hF
              go_upto_region 21 with fail
              clear y0 y1 y2 y3 y4
              replace hS := hS.drew
              refine wp_region_noPanic ?_
              refine wp_region_held_drew (S := (fun w9 => Blk w9 P #[.string ⟨#[]⟩, .slice ac cl.length cc, .slice al ll.length c2, .int .i64 hole, .int .i64 tgt] 77)) (by kernel_rfl) ?_ (fun hHeld => ?_)
              · (try dsimp only); exact hS.fact.2
              refine wpAnyH_take (i := 0) (oi := { dst := some 96, op := Go.Op.move (Go.Operand.tmp 0), type := 28, pos := "ref.go:94", after := #[], guard := none }) (v := ?v28) rfl (by kernel_rfl) (by kernel_rfl) (by kernel_rfl) (fun _ _ _ h => h) (Or.inl ⟨by rfl, ?hy28⟩) (by assumption) ?rest28
              case hy28 => (intro w hSw; (try dsimp only at hSw); obtain ⟨y0, y1, y2, y3, y4, -⟩ := (show Blk w P #[.string ⟨#[]⟩, .slice ac cl.length cc, .slice al ll.length c2, .int .i64 hole, .int .i64 tgt] 77 from hSw).five; go_simp <;> with_reducible rfl)
              try simp only [Act.put, List.setIfInBounds_toArray, List.set_cons_zero, List.set_cons_succ]
              refine wpAnyH_take (i := 2) (oi := { dst := some 98, op := Go.Op.move (Go.Operand.tmp 7), type := 9, pos := "ref.go:94", after := #[], guard := none }) (v := ?v29) rfl (by kernel_rfl) (by kernel_rfl) (by kernel_rfl) (fun _ _ _ h => h) (Or.inl ⟨by rfl, ?hy29⟩) (by assumption) ?rest29
              case hy29 => (intro w hSw; (try dsimp only at hSw); obtain ⟨y0, y1, y2, y3, y4, -⟩ := (show Blk w P #[.string ⟨#[]⟩, .slice ac cl.length cc, .slice al ll.length c2, .int .i64 hole, .int .i64 tgt] 77 from hSw).five; go_simp <;> with_reducible rfl)
              try simp only [Act.put, List.setIfInBounds_toArray, List.set_cons_zero, List.set_cons_succ]
              refine wpAnyH_take (i := 3) (oi := { dst := some 99, op := Go.Op.call { callee := Go.Callee.builtin Go.Builtin.len, args := #[Go.Operand.tmp 98], argTypes := #[9] }, type := 3, pos := "ref.go:94", after := #[{ on := 2, ground := Go.Ground.data }], guard := none }) (v := ?v30) rfl (by kernel_rfl) (by kernel_rfl) (by kernel_rfl) (fun _ _ _ h => h) (Or.inl ⟨by rfl, ?hy30⟩) (by assumption) ?rest30
              case hy30 => (intro w hSw; (try dsimp only at hSw); obtain ⟨y0, y1, y2, y3, y4, -⟩ := (show Blk w P #[.string ⟨#[]⟩, .slice ac cl.length cc, .slice al ll.length c2, .int .i64 hole, .int .i64 tgt] 77 from hSw).five; go_simp <;> with_reducible rfl)
              try simp only [Act.put, List.setIfInBounds_toArray, List.set_cons_zero, List.set_cons_succ]
              refine wpAnyH_take (i := 5) (oi := { dst := some 101, op := Go.Op.fieldAddr 77 (Go.Operand.tmp 13) 2, type := 0, pos := "ref.go:94", after := #[], guard := none }) (v := ?v31) rfl (by kernel_rfl) (by kernel_rfl) (by kernel_rfl) (fun _ _ _ h => h) (Or.inl ⟨by rfl, ?hy31⟩) (by assumption) ?rest31
              case hy31 => (intro w hSw; (try dsimp only at hSw); obtain ⟨y0, y1, y2, y3, y4, -⟩ := (show Blk w P #[.string ⟨#[]⟩, .slice ac cl.length cc, .slice al ll.length c2, .int .i64 hole, .int .i64 tgt] 77 from hSw).five; go_simp <;> with_reducible rfl)
              try simp only [Act.put, List.setIfInBounds_toArray, List.set_cons_zero, List.set_cons_succ]
              refine wpAnyH_take (i := 6) (oi := { dst := some 102, op := Go.Op.load 24 (Go.Operand.tmp 101), type := 24, pos := "ref.go:94", after := #[{ on := 5, ground := Go.Ground.data }], guard := none }) (v := ?v32) rfl (by kernel_rfl) (by kernel_rfl) (by kernel_rfl) (fun _ _ _ h => h) (Or.inl ⟨by rfl, ?hy32⟩) (by assumption) ?rest32
              case hy32 => (intro w hSw; (try dsimp only at hSw); obtain ⟨y0, y1, y2, y3, y4, -⟩ := (show Blk w P #[.string ⟨#[]⟩, .slice ac cl.length cc, .slice al ll.length c2, .int .i64 hole, .int .i64 tgt] 77 from hSw).five; go_simp <;> with_reducible rfl)
              try simp only [Act.put, List.setIfInBounds_toArray, List.set_cons_zero, List.set_cons_succ]
              refine wpAnyH_take (i := 7) (oi := { dst := some 103, op := Go.Op.call { callee := Go.Callee.builtin Go.Builtin.len, args := #[Go.Operand.tmp 102], argTypes := #[24] }, type := 3, pos := "ref.go:94", after := #[{ on := 6, ground := Go.Ground.data }], guard := none }) (v := ?v33) rfl (by kernel_rfl) (by kernel_rfl) (by kernel_rfl) (fun _ _ _ h => h) (Or.inl ⟨by rfl, ?hy33⟩) (by assumption) ?rest33
              case hy33 => (intro w hSw; (try dsimp only at hSw); obtain ⟨y0, y1, y2, y3, y4, -⟩ := (show Blk w P #[.string ⟨#[]⟩, .slice ac cl.length cc, .slice al ll.length c2, .int .i64 hole, .int .i64 tgt] 77 from hSw).five; go_simp <;> with_reducible rfl)
              try simp only [Act.put, List.setIfInBounds_toArray, List.set_cons_zero, List.set_cons_succ]
              refine wpAnyH_ready (rs := [1]) (by kernel_rfl) (by simp) ?_
              refine AllReadyH.cons (o := { dst := some 97, op := Go.Op.call { callee := Go.Callee.value (Go.Operand.func 34), args := #[Go.Operand.tmp 96], argTypes := #[28] }, type := 3, pos := "ref.go:94", after := #[{ on := 0, ground := Go.Ground.data }], guard := none }) rfl (fun K hK => ?_) AllReadyH.nil
              go_simp
              go_at_call 34; refine (hS.read (fun O h => hD.out _ O h)).mono ?_; rintro e w9 ⟨rfl, hS2⟩; clear hS; have hS := hS2; clear hS2
              refine hK.out _ _ ?_ (fun hHeld2 => ?_)
              · (try dsimp only); exact hS.fact.2
              clear hK K hHeld
              have hHeld := hHeld2
              clear hHeld2
              try simp only [Act.put, List.setIfInBounds_toArray, List.set_cons_zero, List.set_cons_succ]
              refine wpAnyH_take (i := 4) (oi := { dst := some 100, op := Go.Op.binOp Go.BinOp.sub 3 (Go.Operand.tmp 97) (Go.Operand.tmp 99) 3, type := 3, pos := "ref.go:94", after := #[{ on := 1, ground := Go.Ground.data }, { on := 3, ground := Go.Ground.data }], guard := none }) (v := ?v34) rfl (by kernel_rfl) (by kernel_rfl) (by kernel_rfl) (fun _ _ _ h => h) (Or.inl ⟨by rfl, ?hy34⟩) (by assumption) ?rest34
              case hy34 => (intro w hSw; (try dsimp only at hSw); obtain ⟨y0, y1, y2, y3, y4, -⟩ := (show Blk w P #[.string ⟨#[]⟩, .slice ac cl.length cc, .slice al ll.length c2, .int .i64 hole, .int .i64 tgt] 77 from hSw).five; go_simp <;> with_reducible rfl)
              try simp only [Act.put, List.setIfInBounds_toArray, List.set_cons_zero, List.set_cons_succ]
              refine wpAnyH_take (i := 8) (oi := { dst := some 104, op := Go.Op.binOp Go.BinOp.add 3 (Go.Operand.tmp 100) (Go.Operand.tmp 103) 3, type := 3, pos := "ref.go:94", after := #[{ on := 4, ground := Go.Ground.data }, { on := 7, ground := Go.Ground.data }], guard := none }) (v := ?v35) rfl (by kernel_rfl) (by kernel_rfl) (by kernel_rfl) (fun _ _ _ h => h) (Or.inl ⟨by rfl, ?hy35⟩) (by assumption) ?rest35
              case hy35 => (intro w hSw; (try dsimp only at hSw); obtain ⟨y0, y1, y2, y3, y4, -⟩ := (show Blk w P #[.string ⟨#[]⟩, .slice ac cl.length cc, .slice al ll.length c2, .int .i64 hole, .int .i64 tgt] 77 from hSw).five; go_simp <;> with_reducible rfl)
              try simp only [Act.put, List.setIfInBounds_toArray, List.set_cons_zero, List.set_cons_succ]
              refine wpAnyH_take (i := 9) (oi := { dst := some 105, op := Go.Op.binOp Go.BinOp.gtr 3 (Go.Operand.tmp 104) (Go.Operand.const (Go.Value.int Go.IntKind.i64 32)) 3, type := 4, pos := "ref.go:94", after := #[{ on := 8, ground := Go.Ground.data }], guard := none }) (v := ?v36) rfl (by kernel_rfl) (by kernel_rfl) (by kernel_rfl) (fun _ _ _ h => h) (Or.inl ⟨by rfl, ?hy36⟩) (by assumption) ?rest36
              case hy36 => (intro w hSw; (try dsimp only at hSw); obtain ⟨y0, y1, y2, y3, y4, -⟩ := (show Blk w P #[.string ⟨#[]⟩, .slice ac cl.length cc, .slice al ll.length c2, .int .i64 hole, .int .i64 tgt] 77 from hSw).five; go_simp <;> with_reducible rfl)
              try simp only [Act.put, List.setIfInBounds_toArray, List.set_cons_zero, List.set_cons_succ]
              refine wpAnyH_done (by kernel_rfl) ?_ _
              refine NoPanic.normal ?_
              go_wp2
              go_ret
              exact hS.refQ _
            · have c3' := (not_congr e32.out).1 c3
              have t3 : (32 < d2) = False := eq_false c3
              have ev : t = 0 := by rw [ht.out]; rw [if_neg (fun h => h.2 c1'), if_neg c2', if_neg c3']
              have eZ := hZ.out
              rw [ev, if_pos rfl] at eZ
              clear hZ
              subst ev
              subst eZ
              clear h1 c1 c1' c2 c2' c3 c3'
              by_cases hz : hole = 0
              · have th : (hole != 0) = false := by simp; exact hz
                have ef := hF.out
                unfold holM comM at ef
                rw [if_neg hc] at ef
                rw [if_pos hz] at ef
                subst ef
                clear hz hc hF
                go_upto_region 21 with fail
                clear y0 y1 y2 y3 y4
                replace hS := hS.drew
                refine wp_region_noPanic ?_
                refine wp_region_held_drew (S := (fun w9 => Blk w9 P #[.string ⟨#[]⟩, .slice ac cl.length cc, .slice al ll.length c2, .int .i64 hole, .int .i64 tgt] 77)) (by kernel_rfl) ?_ (fun hHeld => ?_)
                · (try dsimp only); exact hS.fact.2
                refine wpAnyH_take (i := 0) (oi := { dst := some 96, op := Go.Op.move (Go.Operand.tmp 0), type := 28, pos := "ref.go:94", after := #[], guard := none }) (v := ?v37) rfl (by kernel_rfl) (by kernel_rfl) (by kernel_rfl) (fun _ _ _ h => h) (Or.inl ⟨by rfl, ?hy37⟩) (by assumption) ?rest37
                case hy37 => (intro w hSw; (try dsimp only at hSw); obtain ⟨y0, y1, y2, y3, y4, -⟩ := (show Blk w P #[.string ⟨#[]⟩, .slice ac cl.length cc, .slice al ll.length c2, .int .i64 hole, .int .i64 tgt] 77 from hSw).five; go_simp <;> with_reducible rfl)
                try simp only [Act.put, List.setIfInBounds_toArray, List.set_cons_zero, List.set_cons_succ]
                refine wpAnyH_take (i := 2) (oi := { dst := some 98, op := Go.Op.move (Go.Operand.tmp 7), type := 9, pos := "ref.go:94", after := #[], guard := none }) (v := ?v38) rfl (by kernel_rfl) (by kernel_rfl) (by kernel_rfl) (fun _ _ _ h => h) (Or.inl ⟨by rfl, ?hy38⟩) (by assumption) ?rest38
                case hy38 => (intro w hSw; (try dsimp only at hSw); obtain ⟨y0, y1, y2, y3, y4, -⟩ := (show Blk w P #[.string ⟨#[]⟩, .slice ac cl.length cc, .slice al ll.length c2, .int .i64 hole, .int .i64 tgt] 77 from hSw).five; go_simp <;> with_reducible rfl)
                try simp only [Act.put, List.setIfInBounds_toArray, List.set_cons_zero, List.set_cons_succ]
                refine wpAnyH_take (i := 3) (oi := { dst := some 99, op := Go.Op.call { callee := Go.Callee.builtin Go.Builtin.len, args := #[Go.Operand.tmp 98], argTypes := #[9] }, type := 3, pos := "ref.go:94", after := #[{ on := 2, ground := Go.Ground.data }], guard := none }) (v := ?v39) rfl (by kernel_rfl) (by kernel_rfl) (by kernel_rfl) (fun _ _ _ h => h) (Or.inl ⟨by rfl, ?hy39⟩) (by assumption) ?rest39
                case hy39 => (intro w hSw; (try dsimp only at hSw); obtain ⟨y0, y1, y2, y3, y4, -⟩ := (show Blk w P #[.string ⟨#[]⟩, .slice ac cl.length cc, .slice al ll.length c2, .int .i64 hole, .int .i64 tgt] 77 from hSw).five; go_simp <;> with_reducible rfl)
                try simp only [Act.put, List.setIfInBounds_toArray, List.set_cons_zero, List.set_cons_succ]
                refine wpAnyH_take (i := 5) (oi := { dst := some 101, op := Go.Op.fieldAddr 77 (Go.Operand.tmp 13) 2, type := 0, pos := "ref.go:94", after := #[], guard := none }) (v := ?v40) rfl (by kernel_rfl) (by kernel_rfl) (by kernel_rfl) (fun _ _ _ h => h) (Or.inl ⟨by rfl, ?hy40⟩) (by assumption) ?rest40
                case hy40 => (intro w hSw; (try dsimp only at hSw); obtain ⟨y0, y1, y2, y3, y4, -⟩ := (show Blk w P #[.string ⟨#[]⟩, .slice ac cl.length cc, .slice al ll.length c2, .int .i64 hole, .int .i64 tgt] 77 from hSw).five; go_simp <;> with_reducible rfl)
                try simp only [Act.put, List.setIfInBounds_toArray, List.set_cons_zero, List.set_cons_succ]
                refine wpAnyH_take (i := 6) (oi := { dst := some 102, op := Go.Op.load 24 (Go.Operand.tmp 101), type := 24, pos := "ref.go:94", after := #[{ on := 5, ground := Go.Ground.data }], guard := none }) (v := ?v41) rfl (by kernel_rfl) (by kernel_rfl) (by kernel_rfl) (fun _ _ _ h => h) (Or.inl ⟨by rfl, ?hy41⟩) (by assumption) ?rest41
                case hy41 => (intro w hSw; (try dsimp only at hSw); obtain ⟨y0, y1, y2, y3, y4, -⟩ := (show Blk w P #[.string ⟨#[]⟩, .slice ac cl.length cc, .slice al ll.length c2, .int .i64 hole, .int .i64 tgt] 77 from hSw).five; go_simp <;> with_reducible rfl)
                try simp only [Act.put, List.setIfInBounds_toArray, List.set_cons_zero, List.set_cons_succ]
                refine wpAnyH_take (i := 7) (oi := { dst := some 103, op := Go.Op.call { callee := Go.Callee.builtin Go.Builtin.len, args := #[Go.Operand.tmp 102], argTypes := #[24] }, type := 3, pos := "ref.go:94", after := #[{ on := 6, ground := Go.Ground.data }], guard := none }) (v := ?v42) rfl (by kernel_rfl) (by kernel_rfl) (by kernel_rfl) (fun _ _ _ h => h) (Or.inl ⟨by rfl, ?hy42⟩) (by assumption) ?rest42
                case hy42 => (intro w hSw; (try dsimp only at hSw); obtain ⟨y0, y1, y2, y3, y4, -⟩ := (show Blk w P #[.string ⟨#[]⟩, .slice ac cl.length cc, .slice al ll.length c2, .int .i64 hole, .int .i64 tgt] 77 from hSw).five; go_simp <;> with_reducible rfl)
                try simp only [Act.put, List.setIfInBounds_toArray, List.set_cons_zero, List.set_cons_succ]
                refine wpAnyH_ready (rs := [1]) (by kernel_rfl) (by simp) ?_
                refine AllReadyH.cons (o := { dst := some 97, op := Go.Op.call { callee := Go.Callee.value (Go.Operand.func 34), args := #[Go.Operand.tmp 96], argTypes := #[28] }, type := 3, pos := "ref.go:94", after := #[{ on := 0, ground := Go.Ground.data }], guard := none }) rfl (fun K hK => ?_) AllReadyH.nil
                go_simp
                go_at_call 34; refine (hS.read (fun O h => hD.out _ O h)).mono ?_; rintro e w9 ⟨rfl, hS2⟩; clear hS; have hS := hS2; clear hS2
                refine hK.out _ _ ?_ (fun hHeld2 => ?_)
                · (try dsimp only); exact hS.fact.2
                clear hK K hHeld
                have hHeld := hHeld2
                clear hHeld2
                try simp only [Act.put, List.setIfInBounds_toArray, List.set_cons_zero, List.set_cons_succ]
                refine wpAnyH_take (i := 4) (oi := { dst := some 100, op := Go.Op.binOp Go.BinOp.sub 3 (Go.Operand.tmp 97) (Go.Operand.tmp 99) 3, type := 3, pos := "ref.go:94", after := #[{ on := 1, ground := Go.Ground.data }, { on := 3, ground := Go.Ground.data }], guard := none }) (v := ?v43) rfl (by kernel_rfl) (by kernel_rfl) (by kernel_rfl) (fun _ _ _ h => h) (Or.inl ⟨by rfl, ?hy43⟩) (by assumption) ?rest43
                case hy43 => (intro w hSw; (try dsimp only at hSw); obtain ⟨y0, y1, y2, y3, y4, -⟩ := (show Blk w P #[.string ⟨#[]⟩, .slice ac cl.length cc, .slice al ll.length c2, .int .i64 hole, .int .i64 tgt] 77 from hSw).five; go_simp <;> with_reducible rfl)
                try simp only [Act.put, List.setIfInBounds_toArray, List.set_cons_zero, List.set_cons_succ]
                refine wpAnyH_take (i := 8) (oi := { dst := some 104, op := Go.Op.binOp Go.BinOp.add 3 (Go.Operand.tmp 100) (Go.Operand.tmp 103) 3, type := 3, pos := "ref.go:94", after := #[{ on := 4, ground := Go.Ground.data }, { on := 7, ground := Go.Ground.data }], guard := none }) (v := ?v44) rfl (by kernel_rfl) (by kernel_rfl) (by kernel_rfl) (fun _ _ _ h => h) (Or.inl ⟨by rfl, ?hy44⟩) (by assumption) ?rest44
                case hy44 => (intro w hSw; (try dsimp only at hSw); obtain ⟨y0, y1, y2, y3, y4, -⟩ := (show Blk w P #[.string ⟨#[]⟩, .slice ac cl.length cc, .slice al ll.length c2, .int .i64 hole, .int .i64 tgt] 77 from hSw).five; go_simp <;> with_reducible rfl)
                try simp only [Act.put, List.setIfInBounds_toArray, List.set_cons_zero, List.set_cons_succ]
                refine wpAnyH_take (i := 9) (oi := { dst := some 105, op := Go.Op.binOp Go.BinOp.gtr 3 (Go.Operand.tmp 104) (Go.Operand.const (Go.Value.int Go.IntKind.i64 32)) 3, type := 4, pos := "ref.go:94", after := #[{ on := 8, ground := Go.Ground.data }], guard := none }) (v := ?v45) rfl (by kernel_rfl) (by kernel_rfl) (by kernel_rfl) (fun _ _ _ h => h) (Or.inl ⟨by rfl, ?hy45⟩) (by assumption) ?rest45
                case hy45 => (intro w hSw; (try dsimp only at hSw); obtain ⟨y0, y1, y2, y3, y4, -⟩ := (show Blk w P #[.string ⟨#[]⟩, .slice ac cl.length cc, .slice al ll.length c2, .int .i64 hole, .int .i64 tgt] 77 from hSw).five; go_simp <;> with_reducible rfl)
                try simp only [Act.put, List.setIfInBounds_toArray, List.set_cons_zero, List.set_cons_succ]
                refine wpAnyH_done (by kernel_rfl) ?_ _
                refine NoPanic.normal ?_
                go_wp2_with (first
                    | (go_at_call 38; refine (hS.refX (fun O h hb => hTk.out _ O h)).mono ?_; rintro e w9 ⟨x, rfl, hSx⟩; have hS2 := hSx.weak; clear hSx; clear hS; have hS := hS2; clear hS2; obtain ⟨y0, y1, y2, y3, y4, -⟩ := (show Blk _ P #[.string ⟨#[]⟩, .slice ac cl.length cc, .slice al ll.length c2, .int .i64 hole, .int .i64 tgt] 77 from hS.fact.2).five)
                    | (go_at_call 39; refine (hS.refK2 (fun O h hb hk => rComma h hb hS.len (Keep.vsRv hk.left.left.right) hcl.out)).mono ?_; rintro e w9 ⟨rfl, hS2⟩; clear hS; have hS := hS2; clear hS2; clear y0 y1 y2 y3 y4; obtain ⟨y0, y1, y2, y3, y4, -⟩ := (show Blk _ P #[.string ⟨#[]⟩, .slice ac cl.length cc, .slice al ll.length c2, .int .i64 hole, .int .i64 tgt] 77 from hS.fact.2).five)
                    | (go_at_call 23; refine (hS.ref (fun O h hb => rSet h hole tgt hhi'.out)).mono ?_; rintro e w9 ⟨rfl, hS2⟩; clear hS; have hS := hS2; clear hS2; clear y0 y1 y2 y3 y4; obtain ⟨y0, y1, y2, y3, y4, -⟩ := (show Blk _ P #[.string ⟨#[]⟩, .slice ac cl.length cc, .slice al ll.length c2, .int .i64 hole, .int .i64 tgt] 77 from hS.fact.2).five)
                    | (go_at_call 40; refine (hS.refK2 (fun O h hb hk => rLays h (Keep.vsRv hk.left.right))).mono ?_; rintro e w9 ⟨rfl, hS2⟩; clear hS; have hS := hS2; clear hS2))
                go_ret
                exact hS.refQ _
              · have th : (hole != 0) = true := by simp; exact hz
                have ef := hF.out
                unfold holM comM at ef
                rw [if_neg hc] at ef
                rw [if_neg hz] at ef
                subst ef
                clear hz hc hF
                go_upto_region 21 with fail
                clear y0 y1 y2 y3 y4
                replace hS := hS.drew
                refine wp_region_noPanic ?_
                refine wp_region_held_drew (S := (fun w9 => Blk w9 P #[.string ⟨#[]⟩, .slice ac cl.length cc, .slice al ll.length c2, .int .i64 hole, .int .i64 tgt] 77)) (by kernel_rfl) ?_ (fun hHeld => ?_)
                · (try dsimp only); exact hS.fact.2
                refine wpAnyH_take (i := 0) (oi := { dst := some 96, op := Go.Op.move (Go.Operand.tmp 0), type := 28, pos := "ref.go:94", after := #[], guard := none }) (v := ?v46) rfl (by kernel_rfl) (by kernel_rfl) (by kernel_rfl) (fun _ _ _ h => h) (Or.inl ⟨by rfl, ?hy46⟩) (by assumption) ?rest46
                case hy46 => (intro w hSw; (try dsimp only at hSw); obtain ⟨y0, y1, y2, y3, y4, -⟩ := (show Blk w P #[.string ⟨#[]⟩, .slice ac cl.length cc, .slice al ll.length c2, .int .i64 hole, .int .i64 tgt] 77 from hSw).five; go_simp <;> with_reducible rfl)
                try simp only [Act.put, List.setIfInBounds_toArray, List.set_cons_zero, List.set_cons_succ]
                refine wpAnyH_take (i := 2) (oi := { dst := some 98, op := Go.Op.move (Go.Operand.tmp 7), type := 9, pos := "ref.go:94", after := #[], guard := none }) (v := ?v47) rfl (by kernel_rfl) (by kernel_rfl) (by kernel_rfl) (fun _ _ _ h => h) (Or.inl ⟨by rfl, ?hy47⟩) (by assumption) ?rest47
                case hy47 => (intro w hSw; (try dsimp only at hSw); obtain ⟨y0, y1, y2, y3, y4, -⟩ := (show Blk w P #[.string ⟨#[]⟩, .slice ac cl.length cc, .slice al ll.length c2, .int .i64 hole, .int .i64 tgt] 77 from hSw).five; go_simp <;> with_reducible rfl)
                try simp only [Act.put, List.setIfInBounds_toArray, List.set_cons_zero, List.set_cons_succ]
                refine wpAnyH_take (i := 3) (oi := { dst := some 99, op := Go.Op.call { callee := Go.Callee.builtin Go.Builtin.len, args := #[Go.Operand.tmp 98], argTypes := #[9] }, type := 3, pos := "ref.go:94", after := #[{ on := 2, ground := Go.Ground.data }], guard := none }) (v := ?v48) rfl (by kernel_rfl) (by kernel_rfl) (by kernel_rfl) (fun _ _ _ h => h) (Or.inl ⟨by rfl, ?hy48⟩) (by assumption) ?rest48
                case hy48 => (intro w hSw; (try dsimp only at hSw); obtain ⟨y0, y1, y2, y3, y4, -⟩ := (show Blk w P #[.string ⟨#[]⟩, .slice ac cl.length cc, .slice al ll.length c2, .int .i64 hole, .int .i64 tgt] 77 from hSw).five; go_simp <;> with_reducible rfl)
                try simp only [Act.put, List.setIfInBounds_toArray, List.set_cons_zero, List.set_cons_succ]
                refine wpAnyH_take (i := 5) (oi := { dst := some 101, op := Go.Op.fieldAddr 77 (Go.Operand.tmp 13) 2, type := 0, pos := "ref.go:94", after := #[], guard := none }) (v := ?v49) rfl (by kernel_rfl) (by kernel_rfl) (by kernel_rfl) (fun _ _ _ h => h) (Or.inl ⟨by rfl, ?hy49⟩) (by assumption) ?rest49
                case hy49 => (intro w hSw; (try dsimp only at hSw); obtain ⟨y0, y1, y2, y3, y4, -⟩ := (show Blk w P #[.string ⟨#[]⟩, .slice ac cl.length cc, .slice al ll.length c2, .int .i64 hole, .int .i64 tgt] 77 from hSw).five; go_simp <;> with_reducible rfl)
                try simp only [Act.put, List.setIfInBounds_toArray, List.set_cons_zero, List.set_cons_succ]
                refine wpAnyH_take (i := 6) (oi := { dst := some 102, op := Go.Op.load 24 (Go.Operand.tmp 101), type := 24, pos := "ref.go:94", after := #[{ on := 5, ground := Go.Ground.data }], guard := none }) (v := ?v50) rfl (by kernel_rfl) (by kernel_rfl) (by kernel_rfl) (fun _ _ _ h => h) (Or.inl ⟨by rfl, ?hy50⟩) (by assumption) ?rest50
                case hy50 => (intro w hSw; (try dsimp only at hSw); obtain ⟨y0, y1, y2, y3, y4, -⟩ := (show Blk w P #[.string ⟨#[]⟩, .slice ac cl.length cc, .slice al ll.length c2, .int .i64 hole, .int .i64 tgt] 77 from hSw).five; go_simp <;> with_reducible rfl)
                try simp only [Act.put, List.setIfInBounds_toArray, List.set_cons_zero, List.set_cons_succ]
                refine wpAnyH_take (i := 7) (oi := { dst := some 103, op := Go.Op.call { callee := Go.Callee.builtin Go.Builtin.len, args := #[Go.Operand.tmp 102], argTypes := #[24] }, type := 3, pos := "ref.go:94", after := #[{ on := 6, ground := Go.Ground.data }], guard := none }) (v := ?v51) rfl (by kernel_rfl) (by kernel_rfl) (by kernel_rfl) (fun _ _ _ h => h) (Or.inl ⟨by rfl, ?hy51⟩) (by assumption) ?rest51
                case hy51 => (intro w hSw; (try dsimp only at hSw); obtain ⟨y0, y1, y2, y3, y4, -⟩ := (show Blk w P #[.string ⟨#[]⟩, .slice ac cl.length cc, .slice al ll.length c2, .int .i64 hole, .int .i64 tgt] 77 from hSw).five; go_simp <;> with_reducible rfl)
                try simp only [Act.put, List.setIfInBounds_toArray, List.set_cons_zero, List.set_cons_succ]
                refine wpAnyH_ready (rs := [1]) (by kernel_rfl) (by simp) ?_
                refine AllReadyH.cons (o := { dst := some 97, op := Go.Op.call { callee := Go.Callee.value (Go.Operand.func 34), args := #[Go.Operand.tmp 96], argTypes := #[28] }, type := 3, pos := "ref.go:94", after := #[{ on := 0, ground := Go.Ground.data }], guard := none }) rfl (fun K hK => ?_) AllReadyH.nil
                go_simp
                go_at_call 34; refine (hS.read (fun O h => hD.out _ O h)).mono ?_; rintro e w9 ⟨rfl, hS2⟩; clear hS; have hS := hS2; clear hS2
                refine hK.out _ _ ?_ (fun hHeld2 => ?_)
                · (try dsimp only); exact hS.fact.2
                clear hK K hHeld
                have hHeld := hHeld2
                clear hHeld2
                try simp only [Act.put, List.setIfInBounds_toArray, List.set_cons_zero, List.set_cons_succ]
                refine wpAnyH_take (i := 4) (oi := { dst := some 100, op := Go.Op.binOp Go.BinOp.sub 3 (Go.Operand.tmp 97) (Go.Operand.tmp 99) 3, type := 3, pos := "ref.go:94", after := #[{ on := 1, ground := Go.Ground.data }, { on := 3, ground := Go.Ground.data }], guard := none }) (v := ?v52) rfl (by kernel_rfl) (by kernel_rfl) (by kernel_rfl) (fun _ _ _ h => h) (Or.inl ⟨by rfl, ?hy52⟩) (by assumption) ?rest52
                case hy52 => (intro w hSw; (try dsimp only at hSw); obtain ⟨y0, y1, y2, y3, y4, -⟩ := (show Blk w P #[.string ⟨#[]⟩, .slice ac cl.length cc, .slice al ll.length c2, .int .i64 hole, .int .i64 tgt] 77 from hSw).five; go_simp <;> with_reducible rfl)
                try simp only [Act.put, List.setIfInBounds_toArray, List.set_cons_zero, List.set_cons_succ]
                refine wpAnyH_take (i := 8) (oi := { dst := some 104, op := Go.Op.binOp Go.BinOp.add 3 (Go.Operand.tmp 100) (Go.Operand.tmp 103) 3, type := 3, pos := "ref.go:94", after := #[{ on := 4, ground := Go.Ground.data }, { on := 7, ground := Go.Ground.data }], guard := none }) (v := ?v53) rfl (by kernel_rfl) (by kernel_rfl) (by kernel_rfl) (fun _ _ _ h => h) (Or.inl ⟨by rfl, ?hy53⟩) (by assumption) ?rest53
                case hy53 => (intro w hSw; (try dsimp only at hSw); obtain ⟨y0, y1, y2, y3, y4, -⟩ := (show Blk w P #[.string ⟨#[]⟩, .slice ac cl.length cc, .slice al ll.length c2, .int .i64 hole, .int .i64 tgt] 77 from hSw).five; go_simp <;> with_reducible rfl)
                try simp only [Act.put, List.setIfInBounds_toArray, List.set_cons_zero, List.set_cons_succ]
                refine wpAnyH_take (i := 9) (oi := { dst := some 105, op := Go.Op.binOp Go.BinOp.gtr 3 (Go.Operand.tmp 104) (Go.Operand.const (Go.Value.int Go.IntKind.i64 32)) 3, type := 4, pos := "ref.go:94", after := #[{ on := 8, ground := Go.Ground.data }], guard := none }) (v := ?v54) rfl (by kernel_rfl) (by kernel_rfl) (by kernel_rfl) (fun _ _ _ h => h) (Or.inl ⟨by rfl, ?hy54⟩) (by assumption) ?rest54
                case hy54 => (intro w hSw; (try dsimp only at hSw); obtain ⟨y0, y1, y2, y3, y4, -⟩ := (show Blk w P #[.string ⟨#[]⟩, .slice ac cl.length cc, .slice al ll.length c2, .int .i64 hole, .int .i64 tgt] 77 from hSw).five; go_simp <;> with_reducible rfl)
                try simp only [Act.put, List.setIfInBounds_toArray, List.set_cons_zero, List.set_cons_succ]
                refine wpAnyH_done (by kernel_rfl) ?_ _
                refine NoPanic.normal ?_
                go_wp2_with (first
                    | (go_at_call 38; refine (hS.refX (fun O h hb => hTk.out _ O h)).mono ?_; rintro e w9 ⟨x, rfl, hSx⟩; have hS2 := hSx.weak; clear hSx; clear hS; have hS := hS2; clear hS2; obtain ⟨y0, y1, y2, y3, y4, -⟩ := (show Blk _ P #[.string ⟨#[]⟩, .slice ac cl.length cc, .slice al ll.length c2, .int .i64 hole, .int .i64 tgt] 77 from hS.fact.2).five)
                    | (go_at_call 39; refine (hS.refK2 (fun O h hb hk => rComma h hb hS.len (Keep.vsRv hk.left.left.right) hcl.out)).mono ?_; rintro e w9 ⟨rfl, hS2⟩; clear hS; have hS := hS2; clear hS2; clear y0 y1 y2 y3 y4; obtain ⟨y0, y1, y2, y3, y4, -⟩ := (show Blk _ P #[.string ⟨#[]⟩, .slice ac cl.length cc, .slice al ll.length c2, .int .i64 hole, .int .i64 tgt] 77 from hS.fact.2).five)
                    | (go_at_call 23; refine (hS.ref (fun O h hb => rSet h hole tgt hhi'.out)).mono ?_; rintro e w9 ⟨rfl, hS2⟩; clear hS; have hS := hS2; clear hS2; clear y0 y1 y2 y3 y4; obtain ⟨y0, y1, y2, y3, y4, -⟩ := (show Blk _ P #[.string ⟨#[]⟩, .slice ac cl.length cc, .slice al ll.length c2, .int .i64 hole, .int .i64 tgt] 77 from hS.fact.2).five)
                    | (go_at_call 40; refine (hS.refK2 (fun O h hb hk => rLays h (Keep.vsRv hk.left.right))).mono ?_; rintro e w9 ⟨rfl, hS2⟩; clear hS; have hS := hS2; clear hS2))
                go_ret
                exact hS.refQ _
        · have t1' : (r != 0) = true := by simp; exact c1
          have ev : t = (-23) := by rw [ht.out]; rw [if_pos ⟨hc, fun h => c1 (hr0.out.2 h)⟩]
          have eZ := hZ.out
          rw [ev, if_neg (by decide)] at eZ
          clear hZ
          subst ev
          subst eZ
          clear hc h1 c1 hF
          go_wp2
          go_ret
          exact hS.refQ _
end Go.Proofs.Ytkcmphjgflbchaa

/- The reference's Do, over all words. -/
namespace Go.Proofs.Ytkcmphjgflbchaa
open Go.RowKit
set_option linter.unusedVariables false
set_option linter.unusedSimpArgs false
attribute [local irreducible] cells19 cells20 rowL tabL finM isC depL hereL peekV

/-- A word's letters: 0 none, 1 'h', 2 'g', 3 "hg". -/
theorem want_cases (k : Nat) (hk : k ≤ 10) : (wantC k).size = (if noT k then 0 else if k = 6 then 2 else 1) ∧ (wantC k).size ≤ 2 ∧ (∀ i (h : i < (wantC k).size), ((wantC k)[i]'h).toNat < 128) ∧ (isH (wantC k) 0 = (if k = 6 then true else holeK k)) ∧ isH (wantC k) 1 = false ∧ tkN k = ((wantC k).size : Int) := by
  have hc : k = 0 ∨ k = 1 ∨ k = 2 ∨ k = 3 ∨ k = 4 ∨ k = 5 ∨ k = 6 ∨ k = 7 ∨ k = 8 ∨ k = 9 ∨ k = 10 := by omega
  rcases hc with rfl | rfl | rfl | rfl | rfl | rfl | rfl | rfl | rfl | rfl | rfl <;> decide
theorem bad_iff (M : List UInt8) (here : Int) (k : Nat) (hk : k ≤ 10) : (∃ i, i < (wantC k).size ∧ badR M here (((wantC k).size : Int) - 1 - (i : Int)) (isH (wantC k) i)) ↔ loopE M here k ≠ 0 := by
  obtain ⟨h1, -, -, h4, h5, -⟩ := want_cases k hk
  unfold loopE
  by_cases n : noT k = true
  · rw [if_pos n] at h1 ⊢
    simp [h1]
  · rw [if_neg n] at h1 ⊢
    by_cases s : k = 6
    · rw [if_pos s] at h1 h4 ⊢
      rw [h1]
      by_cases b1 : badR M here 1 true
      · simp only [if_pos b1]
        exact ⟨fun _ => by decide, fun _ => ⟨0, by omega, by rw [h4]; exact b1⟩⟩
      · rw [if_neg b1]
        by_cases b0 : badR M here 0 false
        · simp only [if_pos b0]
          exact ⟨fun _ => by decide, fun _ => ⟨1, by omega, by rw [h5]; exact b0⟩⟩
        · rw [if_neg b0]
          refine ⟨fun ⟨i, hi, hb⟩ => ?_, fun h => absurd rfl h⟩
          have hi2 : i = 0 ∨ i = 1 := by omega
          rcases hi2 with rfl | rfl
          · rw [h4] at hb; exact absurd hb b1
          · rw [h5] at hb; exact absurd hb b0
    · rw [if_neg s] at h1 h4 ⊢
      rw [h1]
      by_cases b0 : badR M here 0 (holeK k)
      · simp only [if_pos b0]
        exact ⟨fun _ => by decide, fun _ => ⟨0, by omega, by rw [h4]; exact b0⟩⟩
      · rw [if_neg b0]
        refine ⟨fun ⟨i, hi, hb⟩ => ?_, fun h => absurd rfl h⟩
        have hi2 : i = 0 := by omega
        subst hi2
        rw [h4] at hb; exact absurd hb b0
theorem adL_adK (M : List UInt8) (k : Nat) (hk : k ≤ 10) : adL M (wantC k).size (wantC k).size = adK k (peekV M 32 256 512 0) (peekV M 32 256 512 1) := by
  obtain ⟨h1, -⟩ := want_cases k hk
  unfold adK
  rw [h1]
  by_cases n : noT k = true
  · rw [if_pos n, if_pos n]; rfl
  · rw [if_neg n, if_neg n]
    by_cases s : k = 6
    · rw [if_pos s, if_pos s]; rfl
    · rw [if_neg s, if_neg s]; rfl
theorem loopE_bad (M : List UInt8) (here : Int) (k : Nat) (h : loopE M here k ≠ 0) : loopE M here k = -22 := by
  unfold loopE at h ⊢
  split at h
  · exact absurd rfl h
  · rename_i n
    rw [if_neg n]
    split at h <;> rename_i s
    · rw [if_pos s]
      split at h <;> rename_i b
      · rw [if_pos b]
      · split at h <;> rename_i c
        · rw [if_neg b, if_pos c]
        · exact absurd rfl h
    · rw [if_neg s]
      split at h <;> rename_i b
      · rw [if_pos b]
      · exact absurd rfl h
theorem rDo {w : World} {B rb : Nat} {M : List UInt8} {R : Nat → Prop} (h : RefP w B rb M R) (hB : B ≤ w.heap.size) (n : Int) :
    Calls Try.prog 13 #[.pointer (some ⟨rb, 0, none⟩), .int .i64 n] w fun e w' => RefQ w w' B rb (ctlM M n) R (.int .i64 (ctlV M n)) e := by
  cases hc : isC n with
  | false =>
    obtain ⟨e1, e2⟩ := ctlV_no (M := M) hc
    rw [e1, e2]
    exact rDo_no h hB n hc
  | true =>
    obtain ⟨k, hk, hnk⟩ := isC_cases hc
    obtain ⟨e1, e2⟩ := ctlV_at (M := M) (k := k) hc (by omega)
    have hOf := fun (w9 : World) => rOf n (by omega) (by omega) w9
    have hnm := name_at k (by omega)
    rw [show n.toNat = 110 + k by omega] at hOf
    generalize rowL.getD (110 + k) default = ro at *
    obtain ⟨pn, pt, pl, pi, pc⟩ := ro
    replace hnm : pn = nmC k := hnm
    unfold primV at hOf
    dsimp only at hOf
    have hT := fun (w9 : World) => rTk k hk w9
    rw [← hnm] at hT
    obtain ⟨h1, h2, h3, h4, h5, h6⟩ := want_cases k hk
    have hdb := (depL_bd (M := M) (show Sk 32 256 512 from by unfold Sk; omega))
    have hl := ctE_loop M (hereL M) k hdb.1
    by_cases hd : depL M 32 256 512 < ((wantC k).size : Int)
    · have hz : ctE M (hereL M) k = -4 := by
        rw [hl]
        by_cases q : noT k = true
        · rw [if_pos q] at h1; omega
        · rw [if_neg q, if_pos]
          rw [if_neg q] at h1
          split at h1 <;> rename_i s
          · rw [if_pos s]; omega
          · rw [if_neg s]; omega
      have hK := ctK_take (M := M) (k := k) (by rw [hz]; decide)
      rw [e1, e2, hK, hz, if_neg (by decide)]
      exact rDo_low h hB n hc hOf hT hd
    · have hz : ctE M (hereL M) k = loopE M (hereL M) k := by
        rw [hl]
        by_cases q : noT k = true
        · rw [if_pos q]; unfold loopE; rw [if_pos q]
        · rw [if_neg q, if_neg]
          rw [if_neg q] at h1
          split at h1 <;> rename_i s
          · rw [if_pos s]; omega
          · rw [if_neg s]; omega
      by_cases hb : loopE M (hereL M) k = 0
      · have hK := ctK_done (M := M) (k := k) (by rw [hz]; exact hb)
        have hps := pln_small (hereL M) (peekV M 32 256 512 0) (peekV M 32 256 512 1) k hk (peekV_isI M 0) (peekV_isI M 1)
        have hin := hereL_in M
        have hM := fun (w9 : World) (al : Option Addr) (n cl0 : Nat) (hn : n = (wantC k).size) (hl : Rv w9 1 (.slice al n cl0) n (ic (adL M (wantC k).size (wantC k).size))) =>
          rMd w9 (hereL M) hin (peekV M 32 256 512 0) (peekV M 32 256 512 1) al n cl0 k hk (by rw [← adL_adK M k hk, adL_len]; exact hn) (by rw [← adL_adK M k hk]; exact hl)
        rw [← hnm] at hM
        rw [e1, e2, hK, h6]
        exact rDo_ok h hB n hc hOf hT hd h2 h3 (fun i hi hbd => (bad_iff M (hereL M) k hk).1 ⟨i, hi, hbd⟩ hb) hM hps.1 hps.2.1 hps.2.2.2.1
      · have hK := ctK_take (M := M) (k := k) (by rw [hz]; exact hb)
        rw [e1, e2, hK, hz, loopE_bad M _ k hb, if_neg (by decide)]
        exact rDo_bad h hB n hc hOf hT hd h2 h3 ((bad_iff M (hereL M) k hk).2 hb)
end Go.Proofs.Ytkcmphjgflbchaa
