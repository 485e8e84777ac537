/- The reference's 'Find'. -/
import Derived.Test.YtcfblcgdjhpdaaaD3
namespace Go.Proofs.Ytcfblcgdjhpdaaa
open Go.RowKit
set_option linter.unusedVariables false
set_option linter.unusedSimpArgs false
attribute [local go_sem] cell_set set_set m_undef
attribute [local irreducible] cells19 cells20 rowL tabL

theorem storeR {W w : World} {B rb : Nat} {M : List UInt8} {R : Nat → Prop} {xt : Int} {im cm : Bool} {b : Nat} (h : Onr W w B rb M R (.blk b #[.int .i64 xt, .bool im, .bool cm] 37)) (hb : W.heap.size ≤ b) (X : Int) (I C : Bool) :
    Onr W (((w.setCell ⟨b, 0, none⟩ (.int .i64 X)).setCell ⟨b, 1, none⟩ (.bool I)).setCell ⟨b, 2, none⟩ (.bool C)) B rb M R (Kp.emp.and (.blk b #[.int .i64 X, .bool I, .bool C] 37)) :=
  Onr.set (Onr.set (Onr.set (h.keep (L := Kp.emp.and (.blk b #[.int .i64 xt, .bool im, .bool cm] 37)) fun O h => (Keep.emp _ _).and h) hb id 0 (.int .i64 X)) hb id 1 (.bool I)) hb id 2 (.bool C)
attribute [local irreducible] wordsL latestL rdOk rdV linkL nameL immL hidL rdXt loadL hereL large numOf
set_option maxRecDepth 100000 in
set_option maxHeartbeats 2000000 in
theorem rFindW {w : World} {B rb : Nat} {M : List UInt8} {R : Nat → Prop} (h : RefP w B rb M R) (nm : ByteArray) (hn : nm.size ≤ 1000) :
    Calls Try.prog 15 #[.pointer (some ⟨rb, 0, none⟩), .string nm] w fun e w' => RefQ w w' B rb M R (findR (findA M nm)) e := by
  have hS := Onr.start h h.base_le'
  have hLg := Lib.hid (fun (s : ByteArray) (hs : s.size ≤ 1000) (w9 : World) => rLarge s hs w9)
  have hWd := Lib.hid (fun (w9 : World) (O : Nat → Prop) (h : RefP w9 B rb M O) => rWords h)
  have hxk := Lib.hid (fun (k : Nat) (x : Int) (hx : (wordsL M)[k]? = some x) => wordsL_ok hx)
  have hfa := Lib.hid (fun (k : Nat) (x : Int) (hx : (wordsL M)[k]? = some x) => @find_at M nm k x hx)
  have hfn := Lib.hid (@find_no M nm)
  have hln := wordsL_len M
  clear h
  generalize wordsL M = xs at *
  obtain ⟨N, hN⟩ : ∃ N, N = xs.length := ⟨_, rfl⟩
  rw [← hN] at hWd hln
  replace hN := Lib.hid hN
  go_enter Try.func15, Try.ntmps15
  have hS2 := hS.new #[.int .i64 0, .bool false, .bool false] 37
  clear hS; have hS := hS2; clear hS2
  obtain ⟨w0, hw0⟩ : ∃ w0, w0 = w.alloc (.cells #[.int .i64 0, .bool false, .bool false] 37) := ⟨_, rfl⟩
  have hs0 : w.heap.size + 1 = w0.heap.size := by rw [hw0]; simp
  rw [← hw0] at hS
  go_upto_region 1 with fail
  rw [← hw0]
  clear hw0
  go_wp2_with (go_at_call 13; refine (hS.refX (fun O h hb => hWd.out _ _ h)).mono ?_; rintro e w1 ⟨v, rfl, hS2⟩; obtain ⟨ad, cp, rfl, hle⟩ := hS2.fact.2.1.form; clear hle; clear hS; have hS := hS2; clear hS2)
  obtain ⟨L, hL⟩ : ∃ L, L = large nm := ⟨_, rfl⟩
  have hl1 := Lib.hid (hLg.out nm hn)
  rw [← hL] at hfa hfn hl1
  replace hL := Lib.hid hL
  replace hS := hS.keep (L := ((Kp.emp.and (.blk w.heap.size #[.int .i64 0, .bool false, .bool false] 37)).and (.vs 6 (.slice ad N cp) N (hcs M xs)))) fun O h => h.left.and h.right.left
  go_loopw [14] (fun i wr => ∃ k : Nat, i = .int .i64 (k : Int) ∧ k ≤ N ∧ (∀ y ∈ xs.take k, hitL M L y = false) ∧ Onr w wr B rb M R ((Kp.emp.and (.blk w.heap.size #[.int .i64 0, .bool false, .bool false] 37)).and (.vs 6 (.slice ad N cp) N (hcs M xs)))) (fun i _ => N - (intOf i).toNat)
  case atStart => exact ⟨0, rfl, Nat.zero_le _, fun y hy => by simp at hy, hS⟩
  case round =>
  obtain ⟨k, rfl, hk, hpre, hS⟩ := hrel
  by_cases hlt : k < N
  · obtain ⟨bv, o, cq, e⟩ := hS.fact.2.some_of (by omega)
    cases e
    obtain ⟨x, hx⟩ : ∃ x, xs[k]? = some x := ⟨xs[k]'(by rw [← hN.out]; exact hlt), List.getElem?_eq_getElem _⟩
    have hfx : hitL M L x = (!hidL M x && ((large ⟨(nameL M x).toArray⟩).toList == L.toList)) := rfl
    have hsm := nameL_len M x
    have hlh := hLg.out ⟨(nameL M x).toArray⟩ (show (nameL M x).toArray.size ≤ 1000 by simpa using hsm)
    have hat := hfa.out k x hx
    have hcell : ∀ (i : Nat) (u : Value), (hc M x)[i]? = some u → wr.cell? ⟨bv, o + k * 6 + i, none⟩ = some u := fun i u hu => by
      have := hS.fact.2.cell (k * 6 + i) u (hcs_at M xs k i x u hx hu)
      rwa [← Nat.add_assoc] at this
    have z0 : wr.cell? ⟨bv, o + k * 6, none⟩ = some (.int .i64 x) := hcell 0 _ rfl
    have z1 := hcell 1 _ rfl
    have z2 := hcell 2 _ rfl
    have z3 := hcell 3 _ rfl
    have z4 := hcell 4 _ rfl
    have z5 := hcell 5 _ rfl
    have htk := take_next hx
    clear hcell hsm
    generalize rdXt M x = X at *
    generalize linkL M x = Y at *
    generalize immL M x = I at *
    generalize hidL M x = D at *
    generalize (⟨(nameL M x).toArray⟩ : ByteArray) = H at *
    obtain ⟨LH, hLH⟩ : ∃ LH, LH = large H := ⟨_, rfl⟩
    rw [← hLH] at hlh hfx
    replace hlh := Lib.hid hlh
    replace hat := Lib.hid hat
    replace hfx := Lib.hid hfx
    replace hLH := Lib.hid hLH
    replace htk := Lib.hid htk
    replace hpre := Lib.hid hpre
    have hlt' := Lib.hid hlt
    replace hx := Lib.hid hx
    have hlN : N ≤ 8192 := hln
    have hw1 : IntKind.i64.wrap ((k : Int) + 1) = ((k + 1 : Nat) : Int) := by rw [IntKind.wrap_i64]; omega
    have hS2 := hS.new #[.int .i64 x, .int .i64 Y, .string H, .bool I, .bool D, .int .i64 X] 34
    obtain ⟨b1, hb1⟩ : ∃ b1, b1 = wr.heap.size := ⟨_, rfl⟩
    obtain ⟨w3, hw3⟩ : ∃ w3, w3 = wr.alloc (.cells #[.int .i64 x, .int .i64 Y, .string H, .bool I, .bool D, .int .i64 X] 34) := ⟨_, rfl⟩
    go_upto_region 4 with fail
    rw [← hw3, ← hb1] at hS2 ⊢
    clear hS hw3 hb1 z0 z1 z2 z3 z4 z5
    have hS := hS2
    clear hS2
    obtain ⟨y1, y2, y3, y4, y5, y6⟩ := hS.fact.2.c6
    cases D with
    | true =>
      go_wp2
      go_roundw
      case rel => exact ⟨k + 1, rfl, hlt'.out, fun z hz => by rw [htk.out] at hz; rcases List.mem_append.1 hz with hz | hz; exact hpre.out z hz; rw [List.mem_singleton.1 hz, hfx.out]; rfl, hS.keep fun O h => h.left⟩
      case measure => simp [intOf]; have := hlt'.out; omega
    | false =>
      cases hq : (LH.toList == L.toList) with
      | false =>
        have hq' := Lib.hid hq
        go_wp2_with (first | (go_at_call_of 36 H; refine (hS.still (hlh.out _)).mono ?_; rintro e w5 ⟨rfl, hS2⟩; clear hS; have hS := hS2; clear hS2) | (go_at_call_of 36 nm; refine (hS.still (hl1.out _)).mono ?_; rintro e w6 ⟨rfl, hS2⟩; clear hS; have hS := hS2; clear hS2))
        go_roundw
        case rel => exact ⟨k + 1, rfl, hlt'.out, fun z hz => by rw [htk.out] at hz; rcases List.mem_append.1 hz with hz | hz; exact hpre.out z hz; rw [List.mem_singleton.1 hz, hfx.out]; simpa using hq'.out, hS.keep fun O h => h.left⟩
        case measure => simp [intOf]; have := hlt'.out; omega
      | true =>
        have hq' := Lib.hid hq
        go_upto_region 5 with (first | (go_at_call_of 36 H; refine (hS.still (hlh.out _)).mono ?_; rintro e w5 ⟨rfl, hS2⟩; clear hS; have hS := hS2; clear hS2) | (go_at_call_of 36 nm; refine (hS.still (hl1.out _)).mono ?_; rintro e w6 ⟨rfl, hS2⟩; clear hS; have hS := hS2; clear hS2))
        obtain ⟨z1, z2, z3, z4, z5, z6⟩ := hS.fact.2.c6
        have fr := hS.fact.1.1.2
        have g1 : w6.cell? ⟨w.heap.size, 0, none⟩ = some (.int .i64 0) := Blk.cell fr 0
        have g2 : w6.cell? ⟨w.heap.size, 1, none⟩ = some (.bool false) := Blk.cell fr 1
        have g3 : w6.cell? ⟨w.heap.size, 2, none⟩ = some (.bool false) := Blk.cell fr 2
        have k1 := Blk.frozen fr 0
        have k2 := Blk.frozen fr 1
        have k3 := Blk.frozen fr 2
        clear fr
        have hF := Lib.hid (hat.out hpre.out (by rw [hfx.out]; simp [hq'.out]))
        go_wp2
        have hs0 := storeR (hS.keep fun O h => h.left.left.right) (by omega) X I false
        obtain ⟨wz, hwz⟩ : ∃ wz, wz = ((w6.setCell ⟨w.heap.size, 0, none⟩ (.int .i64 X)).setCell ⟨w.heap.size, 1, none⟩ (.bool I)).setCell ⟨w.heap.size, 2, none⟩ (.bool false) := ⟨_, rfl⟩
        rw [← hwz] at hs0 ⊢
        have fr : Blk wz w.heap.size #[.int .i64 X, .bool I, .bool false] 37 := hs0.fact.2
        have c0 : wz.cell? ⟨w.heap.size, 0, none⟩ = some (.int .i64 X) := Blk.cell fr 0
        have c1 : wz.cell? ⟨w.heap.size, 1, none⟩ = some (.bool I) := Blk.cell fr 1
        have c2 : wz.cell? ⟨w.heap.size, 2, none⟩ = some (.bool false) := Blk.cell fr 2
        have hq := hs0.refQ (findR (findA M nm))
        refine bodyPost_ret (v := findR (findA M nm)) ?_ rfl hq
        rw [hF.out]
        unfold findR
        simp [results, Try.results15, go_sem, c0, c1, c2]
  · have hkN : k = N := by omega
    have hpre2 : ∀ y ∈ xs, hitL M L y = false := by
      rw [hkN, hN.out, List.take_length] at hpre
      exact hpre
    have hfd : findA M nm = primA (numOf L.data.toList) := hfn.out hpre2
    have hFn := fun (w9 : World) => rFind nm hn w9
    rw [← hL.out] at hFn
    generalize numOf L.data.toList = n at *
    replace hFn := Lib.hid hFn
    replace hfd := Lib.hid hfd
    have t1 : ¬ k < N := hlt
    clear hpre hpre2
    by_cases hc : 1 ≤ n ∧ n ≤ 141
    · have hOf := Lib.hid (fun (w9 : World) => rOf n hc.1 hc.2 w9)
      have hXt := Lib.hid (fun (w9 : World) => rXt n w9)
      rw [if_pos hc] at hXt
      have hpa : primA n = (n * 8, (rowL.getD n.toNat default).2.2.2.1, (rowL.getD n.toNat default).2.2.2.2, true) := if_pos hc
      generalize rowL.getD n.toNat default = ro at *
      obtain ⟨pn, pt, pl, pi, pc⟩ := ro
      unfold primV at hOf
      replace hpa := Lib.hid hpa
      obtain ⟨q8, hq8⟩ : ∃ q8, q8 = n * 8 := ⟨_, rfl⟩
      rw [← hq8] at hXt hpa
      clear hq8 hc hlt
      go_upto_region 11 with (first
        | (go_at_call 37; refine (hS.still (hFn.out _)).mono ?_; rintro e w5 ⟨rfl, hS2⟩; clear hS; have hS := hS2; clear hS2)
        | (go_at_call 38; refine (hS.still (hOf.out _)).mono ?_; rintro e w4 ⟨rfl, hS2⟩; clear hS; have hS := hS2; clear hS2))
      have hS2 := hS.new #[.string pn, .int .i64 pt, .int .i64 pl, .bool pi, .bool pc] 73
      obtain ⟨P, hP⟩ : ∃ P, P = w4.heap.size := ⟨_, rfl⟩
      obtain ⟨w8, hw8⟩ : ∃ w8, w8 = w4.alloc (.cells #[.string pn, .int .i64 pt, .int .i64 pl, .bool pi, .bool pc] 73) := ⟨_, rfl⟩
      have hPr : w.heap.size + 0 < P := by
        have := hS.slt (.inl (.inr rfl))
        omega
      rw [← hw8, ← hP] at hS2 ⊢
      clear hw8 hP hS
      have hS := hS2.drew
      clear hS2
      have hB6 := hS.fact.2
      refine wp_region_noPanic ?_
      refine wp_region_held_drew (S := (fun w9 => Blk w9 P #[.string pn, .int .i64 pt, .int .i64 pl, .bool pi, .bool pc] 73)) (by kernel_rfl) ?_ (fun hHeld => ?_)
      · (try dsimp only); first | exact hB6 | (repeat (first | (with_reducible assumption) | (with_reducible refine Blk.new' ?_; first | rfl | (simp; done) | (simp; omega)) | (with_reducible apply Blk.set01) | (with_reducible apply Blk.set0) | (with_reducible apply Blk.set1) | (with_reducible apply Blk.setOne) | (with_reducible refine Blk.set_other ?_ (by omega) _ _) | (with_reducible apply Blk.alloc) | (with_reducible apply Blk.drew) | (with_reducible refine Blk.below ?_ (by with_reducible assumption))))
      refine wpAnyH_take (i := 0) (oi := { dst := some 45, op := Go.Op.move (Go.Operand.tmp 8), type := 3, pos := "ref.go:43", after := #[], guard := none }) (v := ?v1) rfl (by kernel_rfl) (by kernel_rfl) (by kernel_rfl) (fun _ _ _ h => h) (Or.inl ⟨by rfl, ?hy1⟩) (by assumption) ?rest1
      case hy1 => (intro w hSw; (try dsimp only at hSw); obtain ⟨y1, y2, y3, y4, y5, y6⟩ := (show Blk w P #[.string pn, .int .i64 pt, .int .i64 pl, .bool pi, .bool pc] 73 from hSw).five; go_simp <;> with_reducible rfl)
      try simp only [Act.put, List.setIfInBounds_toArray, List.set_cons_zero, List.set_cons_succ]
      refine wpAnyH_take (i := 2) (oi := { dst := some 47, op := Go.Op.fieldAddr 73 (Go.Operand.tmp 9) 3, type := 0, pos := "ref.go:43", after := #[], guard := none }) (v := ?v2) rfl (by kernel_rfl) (by kernel_rfl) (by kernel_rfl) (fun _ _ _ h => h) (Or.inl ⟨by rfl, ?hy2⟩) (by assumption) ?rest2
      case hy2 => (intro w hSw; (try dsimp only at hSw); obtain ⟨y1, y2, y3, y4, y5, y6⟩ := (show Blk w P #[.string pn, .int .i64 pt, .int .i64 pl, .bool pi, .bool pc] 73 from hSw).five; go_simp <;> with_reducible rfl)
      try simp only [Act.put, List.setIfInBounds_toArray, List.set_cons_zero, List.set_cons_succ]
      refine wpAnyH_take (i := 3) (oi := { dst := some 48, op := Go.Op.load 4 (Go.Operand.tmp 47), type := 4, pos := "ref.go:43", after := #[{ on := 2, ground := Go.Ground.data }], guard := none }) (v := ?v3) rfl (by kernel_rfl) (by kernel_rfl) (by kernel_rfl) (fun _ _ _ h => h) (Or.inl ⟨by rfl, ?hy3⟩) (by assumption) ?rest3
      case hy3 => (intro w hSw; (try dsimp only at hSw); obtain ⟨y1, y2, y3, y4, y5, y6⟩ := (show Blk w P #[.string pn, .int .i64 pt, .int .i64 pl, .bool pi, .bool pc] 73 from hSw).five; go_simp <;> with_reducible rfl)
      try simp only [Act.put, List.setIfInBounds_toArray, List.set_cons_zero, List.set_cons_succ]
      refine wpAnyH_take (i := 4) (oi := { dst := some 49, op := Go.Op.fieldAddr 73 (Go.Operand.tmp 9) 4, type := 0, pos := "ref.go:43", after := #[], guard := none }) (v := ?v4) rfl (by kernel_rfl) (by kernel_rfl) (by kernel_rfl) (fun _ _ _ h => h) (Or.inl ⟨by rfl, ?hy4⟩) (by assumption) ?rest4
      case hy4 => (intro w hSw; (try dsimp only at hSw); obtain ⟨y1, y2, y3, y4, y5, y6⟩ := (show Blk w P #[.string pn, .int .i64 pt, .int .i64 pl, .bool pi, .bool pc] 73 from hSw).five; go_simp <;> with_reducible rfl)
      try simp only [Act.put, List.setIfInBounds_toArray, List.set_cons_zero, List.set_cons_succ]
      refine wpAnyH_take (i := 5) (oi := { dst := some 50, op := Go.Op.load 4 (Go.Operand.tmp 49), type := 4, pos := "ref.go:43", after := #[{ on := 4, ground := Go.Ground.data }], guard := none }) (v := ?v5) rfl (by kernel_rfl) (by kernel_rfl) (by kernel_rfl) (fun _ _ _ h => h) (Or.inl ⟨by rfl, ?hy5⟩) (by assumption) ?rest5
      case hy5 => (intro w hSw; (try dsimp only at hSw); obtain ⟨y1, y2, y3, y4, y5, y6⟩ := (show Blk w P #[.string pn, .int .i64 pt, .int .i64 pl, .bool pi, .bool pc] 73 from hSw).five; go_simp <;> with_reducible rfl)
      try simp only [Act.put, List.setIfInBounds_toArray, List.set_cons_zero, List.set_cons_succ]
      refine wpAnyH_ready (rs := [1]) (by kernel_rfl) (by simp) ?_
      refine AllReadyH.cons (o := { dst := some 46, op := Go.Op.call { callee := Go.Callee.value (Go.Operand.func 39), args := #[Go.Operand.tmp 45], argTypes := #[3] }, type := 2, pos := "ref.go:43", after := #[{ on := 0, ground := Go.Ground.data }], guard := none }) rfl (fun K hK => ?_) AllReadyH.nil
      go_simp
      go_at_call 39; refine (hS.still (hXt.out _)).mono ?_; rintro e w6 ⟨rfl, hS2⟩; clear hS; have hS := hS2; clear hS2; have hB6 := hS.fact.2; have fr := hS.fact.1.1.2; have g1 : w6.cell? ⟨w.heap.size, 0, none⟩ = some (.int .i64 0) := Blk.cell fr 0; have g2 : w6.cell? ⟨w.heap.size, 1, none⟩ = some (.bool false) := Blk.cell fr 1; have g3 : w6.cell? ⟨w.heap.size, 2, none⟩ = some (.bool false) := Blk.cell fr 2; have k1 := Blk.frozen fr 0; have k2 := Blk.frozen fr 1; have k3 := Blk.frozen fr 2; clear fr
      refine hK.out _ _ ?_ (fun hHeld2 => ?_)
      · (try dsimp only); first | exact hB6 | (repeat (first | (with_reducible assumption) | (with_reducible refine Blk.new' ?_; first | rfl | (simp; done) | (simp; omega)) | (with_reducible apply Blk.set01) | (with_reducible apply Blk.set0) | (with_reducible apply Blk.set1) | (with_reducible apply Blk.setOne) | (with_reducible refine Blk.set_other ?_ (by omega) _ _) | (with_reducible apply Blk.alloc) | (with_reducible apply Blk.drew) | (with_reducible refine Blk.below ?_ (by with_reducible assumption))))
      clear hK K hHeld
      have hHeld := hHeld2
      clear hHeld2
      try simp only [Act.put, List.setIfInBounds_toArray, List.set_cons_zero, List.set_cons_succ]
      refine wpAnyH_take (i := 6) (oi := { dst := some 51, op := Go.Op.build 37 #[(0, Go.Operand.tmp 46), (1, Go.Operand.tmp 48), (2, Go.Operand.tmp 50)], type := 37, pos := "ref.go:43", after := #[{ on := 1, ground := Go.Ground.data }, { on := 3, ground := Go.Ground.data }, { on := 5, ground := Go.Ground.data }], guard := none }) (v := ?v6) rfl (by kernel_rfl) (by kernel_rfl) (by kernel_rfl) (fun _ _ _ h => h) (Or.inl ⟨by rfl, ?hy6⟩) (by assumption) ?rest6
      case hy6 => (intro w hSw; (try dsimp only at hSw); obtain ⟨y1, y2, y3, y4, y5, y6⟩ := (show Blk w P #[.string pn, .int .i64 pt, .int .i64 pl, .bool pi, .bool pc] 73 from hSw).five; go_simp <;> with_reducible rfl)
      try simp only [Act.put, List.setIfInBounds_toArray, List.set_cons_zero, List.set_cons_succ]
      refine wpAnyH_ready (rs := [7]) (by kernel_rfl) (by simp) ?_
      refine AllReadyH.cons (o := { dst := none, op := Go.Op.store 37 (Go.Operand.tmp 4) (Go.Operand.tmp 51), type := 0, pos := "ref.go:43", after := #[{ on := 6, ground := Go.Ground.data }, { on := 1, ground := Go.Ground.chain }, { on := 0, ground := Go.Ground.phase }, { on := 1, ground := Go.Ground.phase }, { on := 2, ground := Go.Ground.phase }, { on := 3, ground := Go.Ground.phase }, { on := 4, ground := Go.Ground.phase }, { on := 5, ground := Go.Ground.phase }, { on := 6, ground := Go.Ground.phase }], guard := none }) rfl (fun K hK => ?_) AllReadyH.nil
      go_simp
      refine hK.out _ _ ?_ (fun hHeld2 => ?_)
      · (try dsimp only); first | exact hB6 | (repeat (first | (with_reducible assumption) | (with_reducible refine Blk.new' ?_; first | rfl | (simp; done) | (simp; omega)) | (with_reducible apply Blk.set01) | (with_reducible apply Blk.set0) | (with_reducible apply Blk.set1) | (with_reducible apply Blk.setOne) | (with_reducible refine Blk.set_other ?_ (by omega) _ _) | (with_reducible apply Blk.alloc) | (with_reducible apply Blk.drew) | (with_reducible refine Blk.below ?_ (by with_reducible assumption))))
      clear hK K hHeld
      have hHeld := hHeld2
      clear hHeld2
      try simp only [Act.put, List.setIfInBounds_toArray, List.set_cons_zero, List.set_cons_succ]
      refine wpAnyH_take (i := 8) (oi := { dst := some 5, op := Go.Op.assign (Go.Operand.const (Go.Value.bool true)), type := 4, pos := "ref.go:43", after := #[{ on := 7, ground := Go.Ground.chain }, { on := 0, ground := Go.Ground.phase }, { on := 1, ground := Go.Ground.phase }, { on := 2, ground := Go.Ground.phase }, { on := 3, ground := Go.Ground.phase }, { on := 4, ground := Go.Ground.phase }, { on := 5, ground := Go.Ground.phase }, { on := 6, ground := Go.Ground.phase }, { on := 7, ground := Go.Ground.phase }], guard := none }) (v := ?v7) rfl (by kernel_rfl) (by kernel_rfl) (by kernel_rfl) (fun _ _ _ h => h) (Or.inl ⟨by rfl, ?hy7⟩) (by assumption) ?rest7
      case hy7 => (intro w hSw; (try dsimp only at hSw); obtain ⟨y1, y2, y3, y4, y5, y6⟩ := (show Blk w P #[.string pn, .int .i64 pt, .int .i64 pl, .bool pi, .bool pc] 73 from hSw).five; go_simp <;> with_reducible rfl)
      try simp only [Act.put, List.setIfInBounds_toArray, List.set_cons_zero, List.set_cons_succ]
      refine wpAnyH_done (by kernel_rfl) ?_ _
      refine NoPanic.normal ?_
      go_wp2
      have hs0 := storeR (hS.keep fun O h => h.left.left.right) (by omega) q8 pi pc
      obtain ⟨wz, hwz⟩ : ∃ wz, wz = ((w6.setCell ⟨w.heap.size, 0, none⟩ (.int .i64 q8)).setCell ⟨w.heap.size, 1, none⟩ (.bool pi)).setCell ⟨w.heap.size, 2, none⟩ (.bool pc) := ⟨_, rfl⟩
      rw [← hwz] at hs0 ⊢
      have fr : Blk wz w.heap.size #[.int .i64 q8, .bool pi, .bool pc] 37 := hs0.fact.2
      have c0 : wz.cell? ⟨w.heap.size, 0, none⟩ = some (.int .i64 q8) := Blk.cell fr 0
      have c1 : wz.cell? ⟨w.heap.size, 1, none⟩ = some (.bool pi) := Blk.cell fr 1
      have c2 : wz.cell? ⟨w.heap.size, 2, none⟩ = some (.bool pc) := Blk.cell fr 2
      have hq := hs0.refQ (findR (findA M nm))
      refine bodyPost_ret (v := findR (findA M nm)) ?_ rfl hq
      rw [hfd.out, hpa.out]
      unfold findR
      simp [results, Try.results15, go_sem, c0, c1, c2]
    · have hOf := Lib.hid (fun (w9 : World) => rOf_no n hc w9)
      have hpa : primA n = (0, false, false, false) := if_neg hc
      unfold primV noPrim at hOf
      replace hpa := Lib.hid hpa
      clear hc hlt
      go_upto_region 10 with (first
        | (go_at_call 37; refine (hS.still (hFn.out _)).mono ?_; rintro e w5 ⟨rfl, hS2⟩; clear hS; have hS := hS2; clear hS2)
        | (go_at_call 38; refine (hS.still (hOf.out _)).mono ?_; rintro e w4 ⟨rfl, hS2⟩; clear hS; have hS := hS2; clear hS2))
      have hS2 := hS.alloc (.cells #[.string ⟨#[]⟩, .int .i64 0, .int .i64 0, .bool false, .bool false] 73)
      have fr := hS2.fact.1.2
      have g1 : (w4.alloc (.cells #[.string ⟨#[]⟩, .int .i64 0, .int .i64 0, .bool false, .bool false] 73)).cell? ⟨w.heap.size, 0, none⟩ = some (.int .i64 0) := Blk.cell fr 0
      have g2 : (w4.alloc (.cells #[.string ⟨#[]⟩, .int .i64 0, .int .i64 0, .bool false, .bool false] 73)).cell? ⟨w.heap.size, 1, none⟩ = some (.bool false) := Blk.cell fr 1
      have g3 : (w4.alloc (.cells #[.string ⟨#[]⟩, .int .i64 0, .int .i64 0, .bool false, .bool false] 73)).cell? ⟨w.heap.size, 2, none⟩ = some (.bool false) := Blk.cell fr 2
      have k1 := Blk.frozen fr 0
      have k2 := Blk.frozen fr 1
      have k3 := Blk.frozen fr 2
      clear fr
      go_wp2
      have hs0 := storeR (hS2.keep fun O h => h.left.right) (by omega) 0 false false
      obtain ⟨wz, hwz⟩ : ∃ wz, wz = (((w4.alloc (.cells #[.string ⟨#[]⟩, .int .i64 0, .int .i64 0, .bool false, .bool false] 73)).setCell ⟨w.heap.size, 0, none⟩ (.int .i64 0)).setCell ⟨w.heap.size, 1, none⟩ (.bool false)).setCell ⟨w.heap.size, 2, none⟩ (.bool false) := ⟨_, rfl⟩
      rw [← hwz] at hs0 ⊢
      have fr : Blk wz w.heap.size #[.int .i64 0, .bool false, .bool false] 37 := hs0.fact.2
      have c0 : wz.cell? ⟨w.heap.size, 0, none⟩ = some (.int .i64 0) := Blk.cell fr 0
      have c1 : wz.cell? ⟨w.heap.size, 1, none⟩ = some (.bool false) := Blk.cell fr 1
      have c2 : wz.cell? ⟨w.heap.size, 2, none⟩ = some (.bool false) := Blk.cell fr 2
      have hq := hs0.refQ (findR (findA M nm))
      refine bodyPost_ret (v := findR (findA M nm)) ?_ rfl hq
      rw [hfd.out, hpa.out]
      unfold findR
      simp [results, Try.results15, go_sem, c0, c1, c2]
end Go.Proofs.Ytcfblcgdjhpdaaa
