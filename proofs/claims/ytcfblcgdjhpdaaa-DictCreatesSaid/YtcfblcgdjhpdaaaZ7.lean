/- Texts merged: D3 D4 D5. -/
import Derived.Test.YtcfblcgdjhpdaaaZ6
/- 'Find'. -/
namespace Go.Proofs.Ytcfblcgdjhpdaaa
open Go.RowKit Go.Shelf
set_option linter.unusedVariables false
set_option linter.unusedSimpArgs false
attribute [local go_sem] Oper.semAt_some cell_set set_set m_undef
attribute [local irreducible] cells19 cells20 rowL tabL

def hitL (M : List UInt8) (L : ByteArray) (x : Int) : Bool := !hidL M x && ((large ⟨(nameL M x).toArray⟩).toList == L.toList)
/-- What a primitive is found to be. -/
noncomputable def primA (n : Int) : Int × Bool × Bool × Bool := if 1 ≤ n ∧ n ≤ 141 then (n * 8, (rowL.getD n.toNat default).2.2.2.1, (rowL.getD n.toNat default).2.2.2.2, true) else (0, false, false, false)
theorem nameL_len (M : List UInt8) (x : Int) : (nameL M x).length ≤ 1000 := by
  unfold nameL rdN
  rw [List.length_take]
  omega
def pickO {α β : Type} (o : Option α) (f : α → β) (d : β) : β := match o with
  | some x => f x
  | none => d
theorem pick_some {α β : Type} {l : List α} {p : α → Bool} {f : α → β} {d : β} {x : α} (h : l.find? p = some x) : pickO (l.find? p) f d = f x := by rw [h]; rfl
theorem pick_none {α β : Type} {l : List α} {p : α → Bool} {f : α → β} {d : β} (h : ∀ y ∈ l, p y = false) : pickO (l.find? p) f d = d := by
  rw [List.find?_eq_none.2 (fun y hy => by rw [h y hy]; simp)]; rfl
theorem find_first {α : Type} {l : List α} {p : α → Bool} {k : Nat} {x : α} (hx : l[k]? = some x) (h0 : ∀ y ∈ l.take k, p y = false) (h1 : p x = true) : l.find? p = some x := by
  induction l generalizing k with
  | nil => simp at hx
  | cons y l ih =>
    cases k with
    | zero => simp at hx; subst hx; simp [h1]
    | succ k =>
      have := h0 y (by simp)
      rw [List.find?_cons, this]
      exact ih (by simpa using hx) (fun z hz => h0 z (by simp [hz]))
/-- What 'Find' finds. -/
noncomputable def findA (M : List UInt8) (nm : ByteArray) : Int × Bool × Bool × Bool :=
  pickO ((wordsL M).find? (hitL M (large nm))) (fun x => (rdXt M x, immL M x, false, true)) (primA (numOf (large nm).data.toList))
noncomputable def findR (A : Int × Bool × Bool × Bool) : Value := .tuple #[.agg #[.int .i64 A.1, .bool A.2.1, .bool A.2.2.1], .bool A.2.2.2]
theorem find_at {M : List UInt8} {nm : ByteArray} {k : Nat} {x : Int} (hx : (wordsL M)[k]? = some x) (h0 : ∀ y ∈ (wordsL M).take k, hitL M (large nm) y = false) (h1 : hitL M (large nm) x = true) :
    findA M nm = (rdXt M x, immL M x, false, true) := pick_some (find_first hx h0 h1)
theorem find_no {M : List UInt8} {nm : ByteArray} (h0 : ∀ y ∈ wordsL M, hitL M (large nm) y = false) : findA M nm = primA (numOf (large nm).data.toList) := pick_none h0

/-- The cells of 'Find': its results, the name in capitals, the memory that is ranged over. -/
def FK (r N mb : Nat) (xt : Int) (im cm is : Bool) (L : ByteArray) : Kp := (((Kp.emp.and (.blk r #[.int .i64 xt, .bool im, .bool cm] 37)).and (.blk (r + 1) #[.bool is] 4)).and (.blk N #[.string L] 9)).and (.blk (N + 1) #[.pointer (some ⟨mb, 0, none⟩)] 24)
theorem FK.lt {r N mb : Nat} {xt : Int} {im cm is : Bool} {L : ByteArray} (h : r + 1 < N) {j : Nat} (hj : (FK r N mb xt im cm is L).S j) : j < N + 2 := by
  rcases hj with (((hj | hj) | hj) | hj) | hj
  · exact hj.elim
  · have : j = r := hj
    omega
  · have : j = r + 1 := hj
    omega
  · have : j = N := hj
    omega
  · have : j = N + 1 := hj
    omega
theorem FK.cells {r N mb : Nat} {xt : Int} {im cm is : Bool} {L : ByteArray} {w : World} (h : (FK r N mb xt im cm is L).P w) :
    Blk w r #[.int .i64 xt, .bool im, .bool cm] 37 ∧ Blk w (r + 1) #[.bool is] 4 ∧ Blk w N #[.string L] 9 ∧ Blk w (N + 1) #[.pointer (some ⟨mb, 0, none⟩)] 24 := ⟨h.1.1.1.2, h.1.1.2, h.1.2, h.2⟩

theorem FK.store {base mb r N : Nat} {M : List UInt8} {T : World → Kp → Prop} {w : World} {K : Kp} {xt : Int} {im cm is : Bool} {L : ByteArray} (S : StM base mb M T) (h : T w ((FK r N mb xt im cm is L).and K)) (hr : base ≤ r) (hlt : r + 1 < N) (h1 : ¬ K.S r) (h2 : ¬ K.S (r + 1)) (X : Int) (I C E : Bool) :
    T ((((w.setCell ⟨r, 0, none⟩ (.int .i64 X)).setCell ⟨r, 1, none⟩ (.bool I)).setCell ⟨r, 2, none⟩ (.bool C)).setCell ⟨r + 1, 0, none⟩ (.bool E)) ((FK r N mb X I C E L).and K) := by
  have a1 : T w (((((Kp.emp.and (.blk (r + 1) #[.bool is] 4)).and (.blk N #[.string L] 9)).and (.blk (N + 1) #[.pointer (some ⟨mb, 0, none⟩)] 24)).and K).and (.blk r #[.int .i64 xt, .bool im, .bool cm] 37)) :=
    S.keep h fun O h => ((((h.left.left.left.left.left.and h.left.left.left.right).and h.left.left.right).and h.left.right).and h.right).and h.left.left.left.left.right
  have hn : ¬ ((((Kp.emp.and (.blk (r + 1) #[.bool is] 4)).and (.blk N #[.string L] 9)).and (.blk (N + 1) #[.pointer (some ⟨mb, 0, none⟩)] 24)).and K).S r := fun hj => by
    rcases hj with (((hj | hj) | hj) | hj) | hj
    · exact hj
    · have : r = r + 1 := hj
      omega
    · have : r = N := hj
      omega
    · have : r = N + 1 := hj
      omega
    · exact h1 hj
  have a2 := S.set (S.set (S.set a1 hr hn 0 (.int .i64 X)) hr hn 1 (.bool I)) hr hn 2 (.bool C)
  have a3 := S.keep (L := ((((Kp.emp.and (.blk r #[.int .i64 X, .bool I, .bool C] 37)).and (.blk N #[.string L] 9)).and (.blk (N + 1) #[.pointer (some ⟨mb, 0, none⟩)] 24)).and K).and (.blk (r + 1) #[.bool is] 4)) a2
    fun O h => ((((h.left.left.left.left.left.and h.right).and h.left.left.left.right).and h.left.left.right).and h.left.right).and h.left.left.left.left.right
  have hn2 : ¬ ((((Kp.emp.and (.blk r #[.int .i64 X, .bool I, .bool C] 37)).and (.blk N #[.string L] 9)).and (.blk (N + 1) #[.pointer (some ⟨mb, 0, none⟩)] 24)).and K).S (r + 1) := fun hj => by
    rcases hj with (((hj | hj) | hj) | hj) | hj
    · exact hj
    · have : r + 1 = r := hj
      omega
    · have : r + 1 = N := hj
      omega
    · have : r + 1 = N + 1 := hj
      omega
    · exact h2 hj
  have a4 := S.set a3 (by omega) hn2 0 (.bool E)
  exact S.keep a4 fun O h => ((((h.left.left.left.left.left.and h.left.left.left.left.right).and h.right).and h.left.left.left.right).and h.left.left.right).and h.left.right
attribute [local irreducible] wordsL latestL rdOk rdV linkL nameL immL hidL rdXt loadL hereL large numOf
set_option maxRecDepth 100000 in
set_option maxHeartbeats 2000000 in
theorem kFind {w : World} {B mb : Nat} {M : List UInt8} {O : Nat → Prop} (h : MemP w B mb M O) (hB : B ≤ w.heap.size) (nm : ByteArray) (hn : nm.size ≤ 1000) :
    Calls Try.prog 14 #[.pointer (some ⟨mb, 0, none⟩), .string nm] w fun e w' => MemQ w w' B mb M O (findR (findA M nm)) e := by
  have hS := One.start h hB
  have hLg := Lib.hid (fun (s : ByteArray) (hs : s.size ≤ 1000) (w9 : World) => wLarge s hs w9)
  clear h hB
  obtain ⟨r, hr⟩ : ∃ r, r = w.heap.size := ⟨_, rfl⟩
  refine (callsIn_wide (n := 3)).1 ?_
  refine callsIn_of_wp_marks Try.func14 rfl trivial ?_ rfl
  simp only [Try.ntmps14, List.size_toArray, List.length_cons, List.length_nil, Nat.reduceAdd, Nat.reduceSub, Array.replicate_succ, Array.replicate_zero, List.push_toArray, List.append_toArray, List.nil_append, List.cons_append]
  gi_wp2
  refine ⟨trivial, ?_⟩
  have hS2 := (hS.new #[.int .i64 0, .bool false, .bool false] 37).new #[.bool false] 4
  simp only [World.size_alloc] at hS2
  obtain ⟨L, hL⟩ : ∃ L, L = large nm := ⟨_, rfl⟩
  have hl1 := hLg.out nm hn
  rw [← hL] at hl1
  replace hL := Lib.hid hL
  gi_at_call 32
  refine (callsIn_wide.2 (hS2.still (hl1 _))).mono ?_
  rintro e w1 ⟨rfl, hS1⟩
  clear hS hS2
  gi_wp2
  refine ⟨trivial, ?_⟩
  gi_at_call 12
  refine (callsIn_wide.2 (wWords _ mb)).mono ?_
  rintro e w2 ⟨rfl, hw2⟩
  obtain ⟨N, hN⟩ : ∃ N, N = w1.heap.size := ⟨_, rfl⟩
  have hS2 := (hS1.new #[.string L] 9).new #[.pointer (some ⟨mb, 0, none⟩)] 24
  simp only [World.size_alloc] at hw2 hS2 ⊢
  rw [← hw2] at hS2
  rw [← hN] at hS2 ⊢
  have hlt1 : w.heap.size + 1 < N := by rw [hN]; exact hS1.slt (.inr rfl)
  have hs2 : w2.heap.size = N + 2 := by rw [hw2, hN]; simp
  clear hw2 hN hS1
  gi_wp2
  have sz : w2.heap.size = N + 2 := hs2
  refine wpIn_rangeFunc_T (α := Int) (β := Nat) rfl (by omega) (gf := 28) (lb := #[.pointer (some ⟨N + 1, 0, none⟩)]) rfl trivial (enters_of Try.func28 (by kernel_rfl) rfl) (T := fun w' K => One w w' B mb M O K) One.st (words_in (3 - 1) (by omega) One.st (N + 1)) (fun _ => rfl)
    (fun k => (FK w.heap.size N mb 0 false false false L).and (.pure (∀ y ∈ (wordsL M).take k, hitL M L y = false)))
    (fun k j hj => by
      rcases hj with hj | hj
      · have := FK.lt hlt1 hj
        omega
      · exact hj.elim)
    (fun K L h => h.and) (fun k w hw => (FK.cells hw.1).2.2.2)
    (fun c k => (FK w.heap.size N mb (rdXt M ((wordsL M).getD k 0)) (immL M ((wordsL M).getD k 0)) false true L).and (.pure (c = .ret ∧ findA M nm = (rdXt M ((wordsL M).getD k 0), immL M ((wordsL M).getD k 0), false, true))))
    (fun c k j hj => by
      rcases hj with hj | hj
      · have := FK.lt hlt1 hj
        omega
      · exact hj.elim)
    (hS2.keep fun O h => h.and (Keep.pure (fun y hy => by simp at hy)))
    (fun x y => { tmps := #[.pointer (some ⟨mb, 0, none⟩), .string nm, undef, undef, .pointer (some ⟨w.heap.size, 0, none⟩), .pointer (some ⟨w.heap.size + 1, 0, none⟩), .pointer (some ⟨N, 0, none⟩), .pointer (some ⟨y, 0, none⟩), undef, undef, undef, .string nm, .string L, .pointer (some ⟨mb, 0, none⟩), .func (.func 28) #[] #[.pointer (some ⟨N + 1, 0, none⟩)], rdV M x, undef, undef, undef, undef, undef, undef, undef, undef, undef, undef, undef, undef, undef, undef, undef, undef, undef, undef, undef, undef, undef, undef, undef, undef, undef, undef, undef, undef, undef, undef, undef, undef], defers := [] })
    (fun k x y => ((FK w.heap.size N mb 0 false false false L).and (.pure (∀ y ∈ (wordsL M).take k, hitL M L y = false))).and (.blk y #[.int .i64 x, .int .i64 (linkL M x), .string ⟨(nameL M x).toArray⟩, .bool (immL M x), .bool (hidL M x), .int .i64 (rdXt M x)] 34))
    ?assign ?body ?done ?stop
  case assign =>
    intro l k x K W hx hK hs hT
    have hV := rdV_ok (wordsL_ok hx)
    have hN := One.new hT #[.int .i64 x, .int .i64 (linkL M x), .string ⟨(nameL M x).toArray⟩, .bool (immL M x), .bool (hidL M x), .int .i64 (rdXt M x)] 34
    rw [hV]
    generalize rdXt M x = X at *
    generalize linkL M x = Y at *
    generalize immL M x = I at *
    generalize hidL M x = D at *
    generalize (⟨(nameL M x).toArray⟩ : ByteArray) = H at *
    have hN' := Lib.hid hN
    clear hN hV hT
    gi_wp2
    exact ⟨W.heap.size, rfl, fun j hj => by
      rcases hj with (hj | hj) | hj
      · have := FK.lt hlt1 hj
        omega
      · exact hj.elim
      · have : j = W.heap.size := hj
        omega, hN'.out.keep fun O h => (h.left.left.and h.right).and h.left.right⟩
  case body =>
    intro l k x y K W hx hK hT
    have hV := rdV_ok (wordsL_ok hx)
    have hsm : (nameL M x).length ≤ 1000 := nameL_len M x
    have hfx : hitL M L x = (!hidL M x && ((large ⟨(nameL M x).toArray⟩).toList == L.toList)) := rfl
    have hgd : (wordsL M).getD k 0 = x := by rw [List.getD, hx]; rfl
    have hln := hLg.out ⟨(nameL M x).toArray⟩ (show (nameL M x).toArray.size ≤ 1000 by simpa using hsm)
    simp only [hgd]
    rw [hV]
    have hat := hL.out ▸ (@find_at M nm k x hx)
    obtain ⟨⟨hFK, hpre⟩, hbl⟩ := (One.fact hT).1
    obtain ⟨bl1, bl2, bl3, bl4⟩ := FK.cells hFK
    have hpre' := Lib.hid hpre
    generalize rdXt M x = X at *
    generalize linkL M x = Y at *
    generalize immL M x = I at *
    generalize hidL M x = D at *
    generalize (⟨(nameL M x).toArray⟩ : ByteArray) = H at *
    obtain ⟨LH, hLH⟩ : ∃ LH, LH = large H := ⟨_, rfl⟩
    rw [← hLH] at hln hfx
    obtain ⟨y1, y2, y3, y4, y5, y6⟩ := (show Blk W.drew y _ _ from hbl).c6
    have c3 : W.drew.cell? ⟨N, 0, none⟩ = some (.string L) := (show Blk W.drew N _ _ from bl3).cell 0
    have hln' := Lib.hid hln
    have hat' := Lib.hid hat
    have hfx' := Lib.hid hfx
    replace hx := Lib.hid hx
    replace hLH := Lib.hid hLH
    have hT' := Lib.hid hT
    clear hV hsm hln hat hfx hpre hFK hT bl1 bl2 bl4
    cases D with
    | true =>
      gi_wp2
      refine wpIn_region_any (by kernel_rfl) ?_
      change wpAnyIn _ _ _ _ _ _ _ _ _ (World.drew _)
      refine wpAnyIn_ready (rs := [0]) (by kernel_rfl) (by simp) ?_
      refine AllReadyIn.cons rfl (fun K hK => ?_) AllReadyIn.nil
      go_simp
      refine hK _ _ ?_
      clear hK K
      try simp only [Act.put, List.setIfInBounds_toArray, List.set_cons_zero, List.set_cons_succ]
      refine wpAnyIn_ready (rs := [1]) (by kernel_rfl) (by simp) ?_
      refine AllReadyIn.cons rfl (fun K hK => ?_) AllReadyIn.nil
      go_simp
      refine hK _ _ ?_
      clear hK K
      try simp only [Act.put, List.setIfInBounds_toArray, List.set_cons_zero, List.set_cons_succ]
      refine wpAnyIn_ready (rs := [2]) (by kernel_rfl) (by simp) ?_
      refine AllReadyIn.cons rfl (fun K hK => ?_) AllReadyIn.nil
      go_simp
      refine hK _ _ ?_
      clear hK K
      try simp only [Act.put, List.setIfInBounds_toArray, List.set_cons_zero, List.set_cons_succ]
      refine wpAnyIn_ready (rs := [3]) (by kernel_rfl) (by simp) ?_
      refine AllReadyIn.cons rfl (fun K hK => ?_) AllReadyIn.nil
      go_simp
      refine hK _ _ ?_
      clear hK K
      try simp only [Act.put, List.setIfInBounds_toArray, List.set_cons_zero, List.set_cons_succ]
      refine wpAnyIn_ready (rs := [4, 7]) (by kernel_rfl) (by simp) ?_
      refine AllReadyIn.cons rfl (fun K hK => ?_) ?_
      ·
        go_simp
        refine hK _ _ ?_
        clear hK K
        try simp only [Act.put, List.setIfInBounds_toArray, List.set_cons_zero, List.set_cons_succ]
        refine wpAnyIn_ready (rs := [5, 7]) (by kernel_rfl) (by simp) ?_
        refine AllReadyIn.cons rfl (fun K hK => ?_) ?_
        ·
          go_simp
          refine hK _ _ ?_
          clear hK K
          try simp only [Act.put, List.setIfInBounds_toArray, List.set_cons_zero, List.set_cons_succ]
          refine wpAnyIn_ready (rs := [6, 7]) (by kernel_rfl) (by simp) ?_
          refine AllReadyIn.cons rfl (fun K hK => ?_) ?_
          ·
            go_simp
            refine ⟨by first | trivial | (intro f hf; cases hf), ?_⟩
            refine hK _ _ ?_
            clear hK K
            try simp only [Act.put, List.setIfInBounds_toArray, List.set_cons_zero, List.set_cons_succ]
            refine wpAnyIn_ready (rs := [7]) (by kernel_rfl) (by simp) ?_
            refine AllReadyIn.cons rfl (fun K hK => ?_) AllReadyIn.nil
            go_simp
            refine hK _ _ ?_
            clear hK K
            try simp only [Act.put, List.setIfInBounds_toArray, List.set_cons_zero, List.set_cons_succ]
            refine wpAnyIn_ready (rs := [8]) (by kernel_rfl) (by simp) ?_
            refine AllReadyIn.cons rfl (fun K hK => ?_) AllReadyIn.nil
            go_simp
            refine hK _ _ ?_
            clear hK K
            try simp only [Act.put, List.setIfInBounds_toArray, List.set_cons_zero, List.set_cons_succ]
            refine wpAnyIn_ready (rs := [9]) (by kernel_rfl) (by simp) ?_
            refine AllReadyIn.cons rfl (fun K hK => ?_) AllReadyIn.nil
            go_simp
            refine hK _ _ ?_
            clear hK K
            try simp only [Act.put, List.setIfInBounds_toArray, List.set_cons_zero, List.set_cons_succ]
            refine wpAnyIn_done (by kernel_rfl) ?_ _
            gi_wp2
            exact One.keep hT'.out.drew fun O h => ((h.left.left.left.and (Keep.pure (fun z hz => by rw [take_next hx.out] at hz; rcases List.mem_append.1 hz with hz | hz; exact hpre'.out z hz; rw [List.mem_singleton.1 hz, hfx'.out]; rfl))).and h.right)
          refine AllReadyIn.cons rfl (fun K hK => ?_) ?_
          ·
            go_simp
            refine hK _ _ ?_
            clear hK K
            try simp only [Act.put, List.setIfInBounds_toArray, List.set_cons_zero, List.set_cons_succ]
            refine wpAnyIn_ready (rs := [6]) (by kernel_rfl) (by simp) ?_
            refine AllReadyIn.cons rfl (fun K hK => ?_) AllReadyIn.nil
            go_simp
            refine ⟨by first | trivial | (intro f hf; cases hf), ?_⟩
            refine hK _ _ ?_
            clear hK K
            try simp only [Act.put, List.setIfInBounds_toArray, List.set_cons_zero, List.set_cons_succ]
            refine wpAnyIn_ready (rs := [8]) (by kernel_rfl) (by simp) ?_
            refine AllReadyIn.cons rfl (fun K hK => ?_) AllReadyIn.nil
            go_simp
            refine hK _ _ ?_
            clear hK K
            try simp only [Act.put, List.setIfInBounds_toArray, List.set_cons_zero, List.set_cons_succ]
            refine wpAnyIn_ready (rs := [9]) (by kernel_rfl) (by simp) ?_
            refine AllReadyIn.cons rfl (fun K hK => ?_) AllReadyIn.nil
            go_simp
            refine hK _ _ ?_
            clear hK K
            try simp only [Act.put, List.setIfInBounds_toArray, List.set_cons_zero, List.set_cons_succ]
            refine wpAnyIn_done (by kernel_rfl) ?_ _
            gi_wp2
            exact One.keep hT'.out.drew fun O h => ((h.left.left.left.and (Keep.pure (fun z hz => by rw [take_next hx.out] at hz; rcases List.mem_append.1 hz with hz | hz; exact hpre'.out z hz; rw [List.mem_singleton.1 hz, hfx'.out]; rfl))).and h.right)
          exact AllReadyIn.nil
        refine AllReadyIn.cons rfl (fun K hK => ?_) ?_
        ·
          go_simp
          refine hK _ _ ?_
          clear hK K
          try simp only [Act.put, List.setIfInBounds_toArray, List.set_cons_zero, List.set_cons_succ]
          refine wpAnyIn_ready (rs := [5]) (by kernel_rfl) (by simp) ?_
          refine AllReadyIn.cons rfl (fun K hK => ?_) AllReadyIn.nil
          go_simp
          refine hK _ _ ?_
          clear hK K
          try simp only [Act.put, List.setIfInBounds_toArray, List.set_cons_zero, List.set_cons_succ]
          refine wpAnyIn_ready (rs := [6]) (by kernel_rfl) (by simp) ?_
          refine AllReadyIn.cons rfl (fun K hK => ?_) AllReadyIn.nil
          go_simp
          refine ⟨by first | trivial | (intro f hf; cases hf), ?_⟩
          refine hK _ _ ?_
          clear hK K
          try simp only [Act.put, List.setIfInBounds_toArray, List.set_cons_zero, List.set_cons_succ]
          refine wpAnyIn_ready (rs := [8]) (by kernel_rfl) (by simp) ?_
          refine AllReadyIn.cons rfl (fun K hK => ?_) AllReadyIn.nil
          go_simp
          refine hK _ _ ?_
          clear hK K
          try simp only [Act.put, List.setIfInBounds_toArray, List.set_cons_zero, List.set_cons_succ]
          refine wpAnyIn_ready (rs := [9]) (by kernel_rfl) (by simp) ?_
          refine AllReadyIn.cons rfl (fun K hK => ?_) AllReadyIn.nil
          go_simp
          refine hK _ _ ?_
          clear hK K
          try simp only [Act.put, List.setIfInBounds_toArray, List.set_cons_zero, List.set_cons_succ]
          refine wpAnyIn_done (by kernel_rfl) ?_ _
          gi_wp2
          exact One.keep hT'.out.drew fun O h => ((h.left.left.left.and (Keep.pure (fun z hz => by rw [take_next hx.out] at hz; rcases List.mem_append.1 hz with hz | hz; exact hpre'.out z hz; rw [List.mem_singleton.1 hz, hfx'.out]; rfl))).and h.right)
        exact AllReadyIn.nil
      refine AllReadyIn.cons rfl (fun K hK => ?_) ?_
      ·
        go_simp
        refine hK _ _ ?_
        clear hK K
        try simp only [Act.put, List.setIfInBounds_toArray, List.set_cons_zero, List.set_cons_succ]
        refine wpAnyIn_ready (rs := [4]) (by kernel_rfl) (by simp) ?_
        refine AllReadyIn.cons rfl (fun K hK => ?_) AllReadyIn.nil
        go_simp
        refine hK _ _ ?_
        clear hK K
        try simp only [Act.put, List.setIfInBounds_toArray, List.set_cons_zero, List.set_cons_succ]
        refine wpAnyIn_ready (rs := [5]) (by kernel_rfl) (by simp) ?_
        refine AllReadyIn.cons rfl (fun K hK => ?_) AllReadyIn.nil
        go_simp
        refine hK _ _ ?_
        clear hK K
        try simp only [Act.put, List.setIfInBounds_toArray, List.set_cons_zero, List.set_cons_succ]
        refine wpAnyIn_ready (rs := [6]) (by kernel_rfl) (by simp) ?_
        refine AllReadyIn.cons rfl (fun K hK => ?_) AllReadyIn.nil
        go_simp
        refine ⟨by first | trivial | (intro f hf; cases hf), ?_⟩
        refine hK _ _ ?_
        clear hK K
        try simp only [Act.put, List.setIfInBounds_toArray, List.set_cons_zero, List.set_cons_succ]
        refine wpAnyIn_ready (rs := [8]) (by kernel_rfl) (by simp) ?_
        refine AllReadyIn.cons rfl (fun K hK => ?_) AllReadyIn.nil
        go_simp
        refine hK _ _ ?_
        clear hK K
        try simp only [Act.put, List.setIfInBounds_toArray, List.set_cons_zero, List.set_cons_succ]
        refine wpAnyIn_ready (rs := [9]) (by kernel_rfl) (by simp) ?_
        refine AllReadyIn.cons rfl (fun K hK => ?_) AllReadyIn.nil
        go_simp
        refine hK _ _ ?_
        clear hK K
        try simp only [Act.put, List.setIfInBounds_toArray, List.set_cons_zero, List.set_cons_succ]
        refine wpAnyIn_done (by kernel_rfl) ?_ _
        gi_wp2
        exact One.keep hT'.out.drew fun O h => ((h.left.left.left.and (Keep.pure (fun z hz => by rw [take_next hx.out] at hz; rcases List.mem_append.1 hz with hz | hz; exact hpre'.out z hz; rw [List.mem_singleton.1 hz, hfx'.out]; rfl))).and h.right)
      exact AllReadyIn.nil
    | false =>
      cases hq : (LH.toList == L.toList) with
      | false =>
        have hq' := Lib.hid hq
        gi_wp2
        refine wpIn_region_any (by kernel_rfl) ?_
        change wpAnyIn _ _ _ _ _ _ _ _ _ (World.drew _)
        refine wpAnyIn_ready (rs := [0]) (by kernel_rfl) (by simp) ?_
        refine AllReadyIn.cons rfl (fun K hK => ?_) AllReadyIn.nil
        go_simp
        refine hK _ _ ?_
        clear hK K
        try simp only [Act.put, List.setIfInBounds_toArray, List.set_cons_zero, List.set_cons_succ]
        refine wpAnyIn_ready (rs := [1]) (by kernel_rfl) (by simp) ?_
        refine AllReadyIn.cons rfl (fun K hK => ?_) AllReadyIn.nil
        go_simp
        refine hK _ _ ?_
        clear hK K
        try simp only [Act.put, List.setIfInBounds_toArray, List.set_cons_zero, List.set_cons_succ]
        refine wpAnyIn_ready (rs := [2]) (by kernel_rfl) (by simp) ?_
        refine AllReadyIn.cons rfl (fun K hK => ?_) AllReadyIn.nil
        go_simp
        refine hK _ _ ?_
        clear hK K
        try simp only [Act.put, List.setIfInBounds_toArray, List.set_cons_zero, List.set_cons_succ]
        refine wpAnyIn_ready (rs := [3]) (by kernel_rfl) (by simp) ?_
        refine AllReadyIn.cons rfl (fun K hK => ?_) AllReadyIn.nil
        go_simp
        refine hK _ _ ?_
        clear hK K
        try simp only [Act.put, List.setIfInBounds_toArray, List.set_cons_zero, List.set_cons_succ]
        refine wpAnyIn_ready (rs := [4, 7]) (by kernel_rfl) (by simp) ?_
        refine AllReadyIn.cons rfl (fun K hK => ?_) ?_
        ·
          go_simp
          refine hK _ _ ?_
          clear hK K
          try simp only [Act.put, List.setIfInBounds_toArray, List.set_cons_zero, List.set_cons_succ]
          refine wpAnyIn_ready (rs := [5, 7]) (by kernel_rfl) (by simp) ?_
          refine AllReadyIn.cons rfl (fun K hK => ?_) ?_
          ·
            go_simp
            refine hK _ _ ?_
            clear hK K
            try simp only [Act.put, List.setIfInBounds_toArray, List.set_cons_zero, List.set_cons_succ]
            refine wpAnyIn_ready (rs := [6, 7]) (by kernel_rfl) (by simp) ?_
            refine AllReadyIn.cons rfl (fun K hK => ?_) ?_
            ·
              go_simp
              refine ⟨trivial, ?_⟩; gi_at_call 32; refine (CallsIn.inRound l (callsIn_wide.2 (hln'.out _))).mono ?_; rintro e w5 ⟨rfl, hb5⟩; have hT5 := Lib.hid (One.below hT'.out.drew hb5); have c3 : w5.cell? ⟨N, 0, none⟩ = some (.string L) := Blk.cell (FK.cells (One.fact hT5.out).1.1.1).2.2.1 0
              refine hK _ _ ?_
              clear hK K
              try simp only [Act.put, List.setIfInBounds_toArray, List.set_cons_zero, List.set_cons_succ]
              refine wpAnyIn_ready (rs := [7]) (by kernel_rfl) (by simp) ?_
              refine AllReadyIn.cons rfl (fun K hK => ?_) AllReadyIn.nil
              go_simp
              refine hK _ _ ?_
              clear hK K
              try simp only [Act.put, List.setIfInBounds_toArray, List.set_cons_zero, List.set_cons_succ]
              refine wpAnyIn_ready (rs := [8]) (by kernel_rfl) (by simp) ?_
              refine AllReadyIn.cons rfl (fun K hK => ?_) AllReadyIn.nil
              go_simp
              refine hK _ _ ?_
              clear hK K
              try simp only [Act.put, List.setIfInBounds_toArray, List.set_cons_zero, List.set_cons_succ]
              refine wpAnyIn_ready (rs := [9]) (by kernel_rfl) (by simp) ?_
              refine AllReadyIn.cons rfl (fun K hK => ?_) AllReadyIn.nil
              go_simp
              refine hK _ _ ?_
              clear hK K
              try simp only [Act.put, List.setIfInBounds_toArray, List.set_cons_zero, List.set_cons_succ]
              refine wpAnyIn_done (by kernel_rfl) ?_ _
              gi_wp2
              exact One.keep hT5.out fun O h => ((h.left.left.left.and (Keep.pure (fun z hz => by rw [take_next hx.out] at hz; rcases List.mem_append.1 hz with hz | hz; exact hpre'.out z hz; rw [List.mem_singleton.1 hz, hfx'.out]; simpa using hq'.out))).and h.right)
            refine AllReadyIn.cons rfl (fun K hK => ?_) ?_
            ·
              go_simp
              refine hK _ _ ?_
              clear hK K
              try simp only [Act.put, List.setIfInBounds_toArray, List.set_cons_zero, List.set_cons_succ]
              refine wpAnyIn_ready (rs := [6]) (by kernel_rfl) (by simp) ?_
              refine AllReadyIn.cons rfl (fun K hK => ?_) AllReadyIn.nil
              go_simp
              refine ⟨trivial, ?_⟩; gi_at_call 32; refine (CallsIn.inRound l (callsIn_wide.2 (hln'.out _))).mono ?_; rintro e w5 ⟨rfl, hb5⟩; have hT5 := Lib.hid (One.below hT'.out.drew hb5); have c3 : w5.cell? ⟨N, 0, none⟩ = some (.string L) := Blk.cell (FK.cells (One.fact hT5.out).1.1.1).2.2.1 0
              refine hK _ _ ?_
              clear hK K
              try simp only [Act.put, List.setIfInBounds_toArray, List.set_cons_zero, List.set_cons_succ]
              refine wpAnyIn_ready (rs := [8]) (by kernel_rfl) (by simp) ?_
              refine AllReadyIn.cons rfl (fun K hK => ?_) AllReadyIn.nil
              go_simp
              refine hK _ _ ?_
              clear hK K
              try simp only [Act.put, List.setIfInBounds_toArray, List.set_cons_zero, List.set_cons_succ]
              refine wpAnyIn_ready (rs := [9]) (by kernel_rfl) (by simp) ?_
              refine AllReadyIn.cons rfl (fun K hK => ?_) AllReadyIn.nil
              go_simp
              refine hK _ _ ?_
              clear hK K
              try simp only [Act.put, List.setIfInBounds_toArray, List.set_cons_zero, List.set_cons_succ]
              refine wpAnyIn_done (by kernel_rfl) ?_ _
              gi_wp2
              exact One.keep hT5.out fun O h => ((h.left.left.left.and (Keep.pure (fun z hz => by rw [take_next hx.out] at hz; rcases List.mem_append.1 hz with hz | hz; exact hpre'.out z hz; rw [List.mem_singleton.1 hz, hfx'.out]; simpa using hq'.out))).and h.right)
            exact AllReadyIn.nil
          refine AllReadyIn.cons rfl (fun K hK => ?_) ?_
          ·
            go_simp
            refine hK _ _ ?_
            clear hK K
            try simp only [Act.put, List.setIfInBounds_toArray, List.set_cons_zero, List.set_cons_succ]
            refine wpAnyIn_ready (rs := [5]) (by kernel_rfl) (by simp) ?_
            refine AllReadyIn.cons rfl (fun K hK => ?_) AllReadyIn.nil
            go_simp
            refine hK _ _ ?_
            clear hK K
            try simp only [Act.put, List.setIfInBounds_toArray, List.set_cons_zero, List.set_cons_succ]
            refine wpAnyIn_ready (rs := [6]) (by kernel_rfl) (by simp) ?_
            refine AllReadyIn.cons rfl (fun K hK => ?_) AllReadyIn.nil
            go_simp
            refine ⟨trivial, ?_⟩; gi_at_call 32; refine (CallsIn.inRound l (callsIn_wide.2 (hln'.out _))).mono ?_; rintro e w5 ⟨rfl, hb5⟩; have hT5 := Lib.hid (One.below hT'.out.drew hb5); have c3 : w5.cell? ⟨N, 0, none⟩ = some (.string L) := Blk.cell (FK.cells (One.fact hT5.out).1.1.1).2.2.1 0
            refine hK _ _ ?_
            clear hK K
            try simp only [Act.put, List.setIfInBounds_toArray, List.set_cons_zero, List.set_cons_succ]
            refine wpAnyIn_ready (rs := [8]) (by kernel_rfl) (by simp) ?_
            refine AllReadyIn.cons rfl (fun K hK => ?_) AllReadyIn.nil
            go_simp
            refine hK _ _ ?_
            clear hK K
            try simp only [Act.put, List.setIfInBounds_toArray, List.set_cons_zero, List.set_cons_succ]
            refine wpAnyIn_ready (rs := [9]) (by kernel_rfl) (by simp) ?_
            refine AllReadyIn.cons rfl (fun K hK => ?_) AllReadyIn.nil
            go_simp
            refine hK _ _ ?_
            clear hK K
            try simp only [Act.put, List.setIfInBounds_toArray, List.set_cons_zero, List.set_cons_succ]
            refine wpAnyIn_done (by kernel_rfl) ?_ _
            gi_wp2
            exact One.keep hT5.out fun O h => ((h.left.left.left.and (Keep.pure (fun z hz => by rw [take_next hx.out] at hz; rcases List.mem_append.1 hz with hz | hz; exact hpre'.out z hz; rw [List.mem_singleton.1 hz, hfx'.out]; simpa using hq'.out))).and h.right)
          exact AllReadyIn.nil
        refine AllReadyIn.cons rfl (fun K hK => ?_) ?_
        ·
          go_simp
          refine hK _ _ ?_
          clear hK K
          try simp only [Act.put, List.setIfInBounds_toArray, List.set_cons_zero, List.set_cons_succ]
          refine wpAnyIn_ready (rs := [4]) (by kernel_rfl) (by simp) ?_
          refine AllReadyIn.cons rfl (fun K hK => ?_) AllReadyIn.nil
          go_simp
          refine hK _ _ ?_
          clear hK K
          try simp only [Act.put, List.setIfInBounds_toArray, List.set_cons_zero, List.set_cons_succ]
          refine wpAnyIn_ready (rs := [5]) (by kernel_rfl) (by simp) ?_
          refine AllReadyIn.cons rfl (fun K hK => ?_) AllReadyIn.nil
          go_simp
          refine hK _ _ ?_
          clear hK K
          try simp only [Act.put, List.setIfInBounds_toArray, List.set_cons_zero, List.set_cons_succ]
          refine wpAnyIn_ready (rs := [6]) (by kernel_rfl) (by simp) ?_
          refine AllReadyIn.cons rfl (fun K hK => ?_) AllReadyIn.nil
          go_simp
          refine ⟨trivial, ?_⟩; gi_at_call 32; refine (CallsIn.inRound l (callsIn_wide.2 (hln'.out _))).mono ?_; rintro e w5 ⟨rfl, hb5⟩; have hT5 := Lib.hid (One.below hT'.out.drew hb5); have c3 : w5.cell? ⟨N, 0, none⟩ = some (.string L) := Blk.cell (FK.cells (One.fact hT5.out).1.1.1).2.2.1 0
          refine hK _ _ ?_
          clear hK K
          try simp only [Act.put, List.setIfInBounds_toArray, List.set_cons_zero, List.set_cons_succ]
          refine wpAnyIn_ready (rs := [8]) (by kernel_rfl) (by simp) ?_
          refine AllReadyIn.cons rfl (fun K hK => ?_) AllReadyIn.nil
          go_simp
          refine hK _ _ ?_
          clear hK K
          try simp only [Act.put, List.setIfInBounds_toArray, List.set_cons_zero, List.set_cons_succ]
          refine wpAnyIn_ready (rs := [9]) (by kernel_rfl) (by simp) ?_
          refine AllReadyIn.cons rfl (fun K hK => ?_) AllReadyIn.nil
          go_simp
          refine hK _ _ ?_
          clear hK K
          try simp only [Act.put, List.setIfInBounds_toArray, List.set_cons_zero, List.set_cons_succ]
          refine wpAnyIn_done (by kernel_rfl) ?_ _
          gi_wp2
          exact One.keep hT5.out fun O h => ((h.left.left.left.and (Keep.pure (fun z hz => by rw [take_next hx.out] at hz; rcases List.mem_append.1 hz with hz | hz; exact hpre'.out z hz; rw [List.mem_singleton.1 hz, hfx'.out]; simpa using hq'.out))).and h.right)
        exact AllReadyIn.nil
      | true =>
        have hq' := Lib.hid hq
        gi_wp2
        refine wpIn_region_any (by kernel_rfl) ?_
        change wpAnyIn _ _ _ _ _ _ _ _ _ (World.drew _)
        refine wpAnyIn_ready (rs := [0]) (by kernel_rfl) (by simp) ?_
        refine AllReadyIn.cons rfl (fun K hK => ?_) AllReadyIn.nil
        go_simp
        refine hK _ _ ?_
        clear hK K
        try simp only [Act.put, List.setIfInBounds_toArray, List.set_cons_zero, List.set_cons_succ]
        refine wpAnyIn_ready (rs := [1]) (by kernel_rfl) (by simp) ?_
        refine AllReadyIn.cons rfl (fun K hK => ?_) AllReadyIn.nil
        go_simp
        refine hK _ _ ?_
        clear hK K
        try simp only [Act.put, List.setIfInBounds_toArray, List.set_cons_zero, List.set_cons_succ]
        refine wpAnyIn_ready (rs := [2]) (by kernel_rfl) (by simp) ?_
        refine AllReadyIn.cons rfl (fun K hK => ?_) AllReadyIn.nil
        go_simp
        refine hK _ _ ?_
        clear hK K
        try simp only [Act.put, List.setIfInBounds_toArray, List.set_cons_zero, List.set_cons_succ]
        refine wpAnyIn_ready (rs := [3]) (by kernel_rfl) (by simp) ?_
        refine AllReadyIn.cons rfl (fun K hK => ?_) AllReadyIn.nil
        go_simp
        refine hK _ _ ?_
        clear hK K
        try simp only [Act.put, List.setIfInBounds_toArray, List.set_cons_zero, List.set_cons_succ]
        refine wpAnyIn_ready (rs := [4, 7]) (by kernel_rfl) (by simp) ?_
        refine AllReadyIn.cons rfl (fun K hK => ?_) ?_
        ·
          go_simp
          refine hK _ _ ?_
          clear hK K
          try simp only [Act.put, List.setIfInBounds_toArray, List.set_cons_zero, List.set_cons_succ]
          refine wpAnyIn_ready (rs := [5, 7]) (by kernel_rfl) (by simp) ?_
          refine AllReadyIn.cons rfl (fun K hK => ?_) ?_
          ·
            go_simp
            refine hK _ _ ?_
            clear hK K
            try simp only [Act.put, List.setIfInBounds_toArray, List.set_cons_zero, List.set_cons_succ]
            refine wpAnyIn_ready (rs := [6, 7]) (by kernel_rfl) (by simp) ?_
            refine AllReadyIn.cons rfl (fun K hK => ?_) ?_
            ·
              go_simp
              refine ⟨trivial, ?_⟩; gi_at_call 32; refine (CallsIn.inRound l (callsIn_wide.2 (hln'.out _))).mono ?_; rintro e w5 ⟨rfl, hb5⟩; have hT5 := Lib.hid (One.below hT'.out.drew hb5); have c3 : w5.cell? ⟨N, 0, none⟩ = some (.string L) := Blk.cell (FK.cells (One.fact hT5.out).1.1.1).2.2.1 0
              refine hK _ _ ?_
              clear hK K
              try simp only [Act.put, List.setIfInBounds_toArray, List.set_cons_zero, List.set_cons_succ]
              refine wpAnyIn_ready (rs := [7]) (by kernel_rfl) (by simp) ?_
              refine AllReadyIn.cons rfl (fun K hK => ?_) AllReadyIn.nil
              go_simp
              refine hK _ _ ?_
              clear hK K
              try simp only [Act.put, List.setIfInBounds_toArray, List.set_cons_zero, List.set_cons_succ]
              refine wpAnyIn_ready (rs := [8]) (by kernel_rfl) (by simp) ?_
              refine AllReadyIn.cons rfl (fun K hK => ?_) AllReadyIn.nil
              go_simp
              refine hK _ _ ?_
              clear hK K
              try simp only [Act.put, List.setIfInBounds_toArray, List.set_cons_zero, List.set_cons_succ]
              refine wpAnyIn_ready (rs := [9]) (by kernel_rfl) (by simp) ?_
              refine AllReadyIn.cons rfl (fun K hK => ?_) AllReadyIn.nil
              go_simp
              refine hK _ _ ?_
              clear hK K
              try simp only [Act.put, List.setIfInBounds_toArray, List.set_cons_zero, List.set_cons_succ]
              refine wpAnyIn_done (by kernel_rfl) ?_ _
              have hfc := Lib.hid (One.fact hT5.out).1
              obtain ⟨z1, z2, z3, z4, z5, z6⟩ := Blk.c6 hfc.out.2
              obtain ⟨f1, f2, f3, f4⟩ := FK.cells hfc.out.1.1
              have g1 : w5.cell? ⟨w.heap.size, 0, none⟩ = some (.int .i64 0) := Blk.cell f1 0
              have g2 : w5.cell? ⟨w.heap.size, 1, none⟩ = some (.bool false) := Blk.cell f1 1
              have g3 : w5.cell? ⟨w.heap.size, 2, none⟩ = some (.bool false) := Blk.cell f1 2
              have g4 : w5.cell? ⟨w.heap.size + 1, 0, none⟩ = some (.bool false) := Blk.cell f2 0
              have k1 := Blk.frozen f1 0
              have k2 := Blk.frozen f1 1
              have k3 := Blk.frozen f1 2
              have k4 := Blk.frozen f2 0
              clear f1 f2 f3 f4 hfc
              gi_wp2
              have hF : findA M nm = (X, I, false, true) := hat'.out hpre'.out (by rw [hfx'.out]; simp [hq'.out])
              exact One.keep (FK.store One.st (One.keep hT5.out fun O h => h.left.left.left.and ((Keep.pure (p := Code.ret = Code.ret ∧ findA M nm = (X, I, false, true)) ⟨rfl, hF⟩).and h.right)) (Nat.le_refl _) hlt1 (fun hj => by rcases hj with hj | hj; exact hj; have := hK _ hj; omega) (fun hj => by rcases hj with hj | hj; exact hj; have := hK _ hj; omega) X I false true) fun O h => (h.left.and h.right.left).and h.right.right
            refine AllReadyIn.cons rfl (fun K hK => ?_) ?_
            ·
              go_simp
              refine hK _ _ ?_
              clear hK K
              try simp only [Act.put, List.setIfInBounds_toArray, List.set_cons_zero, List.set_cons_succ]
              refine wpAnyIn_ready (rs := [6]) (by kernel_rfl) (by simp) ?_
              refine AllReadyIn.cons rfl (fun K hK => ?_) AllReadyIn.nil
              go_simp
              refine ⟨trivial, ?_⟩; gi_at_call 32; refine (CallsIn.inRound l (callsIn_wide.2 (hln'.out _))).mono ?_; rintro e w5 ⟨rfl, hb5⟩; have hT5 := Lib.hid (One.below hT'.out.drew hb5); have c3 : w5.cell? ⟨N, 0, none⟩ = some (.string L) := Blk.cell (FK.cells (One.fact hT5.out).1.1.1).2.2.1 0
              refine hK _ _ ?_
              clear hK K
              try simp only [Act.put, List.setIfInBounds_toArray, List.set_cons_zero, List.set_cons_succ]
              refine wpAnyIn_ready (rs := [8]) (by kernel_rfl) (by simp) ?_
              refine AllReadyIn.cons rfl (fun K hK => ?_) AllReadyIn.nil
              go_simp
              refine hK _ _ ?_
              clear hK K
              try simp only [Act.put, List.setIfInBounds_toArray, List.set_cons_zero, List.set_cons_succ]
              refine wpAnyIn_ready (rs := [9]) (by kernel_rfl) (by simp) ?_
              refine AllReadyIn.cons rfl (fun K hK => ?_) AllReadyIn.nil
              go_simp
              refine hK _ _ ?_
              clear hK K
              try simp only [Act.put, List.setIfInBounds_toArray, List.set_cons_zero, List.set_cons_succ]
              refine wpAnyIn_done (by kernel_rfl) ?_ _
              have hfc := Lib.hid (One.fact hT5.out).1
              obtain ⟨z1, z2, z3, z4, z5, z6⟩ := Blk.c6 hfc.out.2
              obtain ⟨f1, f2, f3, f4⟩ := FK.cells hfc.out.1.1
              have g1 : w5.cell? ⟨w.heap.size, 0, none⟩ = some (.int .i64 0) := Blk.cell f1 0
              have g2 : w5.cell? ⟨w.heap.size, 1, none⟩ = some (.bool false) := Blk.cell f1 1
              have g3 : w5.cell? ⟨w.heap.size, 2, none⟩ = some (.bool false) := Blk.cell f1 2
              have g4 : w5.cell? ⟨w.heap.size + 1, 0, none⟩ = some (.bool false) := Blk.cell f2 0
              have k1 := Blk.frozen f1 0
              have k2 := Blk.frozen f1 1
              have k3 := Blk.frozen f1 2
              have k4 := Blk.frozen f2 0
              clear f1 f2 f3 f4 hfc
              gi_wp2
              have hF : findA M nm = (X, I, false, true) := hat'.out hpre'.out (by rw [hfx'.out]; simp [hq'.out])
              exact One.keep (FK.store One.st (One.keep hT5.out fun O h => h.left.left.left.and ((Keep.pure (p := Code.ret = Code.ret ∧ findA M nm = (X, I, false, true)) ⟨rfl, hF⟩).and h.right)) (Nat.le_refl _) hlt1 (fun hj => by rcases hj with hj | hj; exact hj; have := hK _ hj; omega) (fun hj => by rcases hj with hj | hj; exact hj; have := hK _ hj; omega) X I false true) fun O h => (h.left.and h.right.left).and h.right.right
            exact AllReadyIn.nil
          refine AllReadyIn.cons rfl (fun K hK => ?_) ?_
          ·
            go_simp
            refine hK _ _ ?_
            clear hK K
            try simp only [Act.put, List.setIfInBounds_toArray, List.set_cons_zero, List.set_cons_succ]
            refine wpAnyIn_ready (rs := [5]) (by kernel_rfl) (by simp) ?_
            refine AllReadyIn.cons rfl (fun K hK => ?_) AllReadyIn.nil
            go_simp
            refine hK _ _ ?_
            clear hK K
            try simp only [Act.put, List.setIfInBounds_toArray, List.set_cons_zero, List.set_cons_succ]
            refine wpAnyIn_ready (rs := [6]) (by kernel_rfl) (by simp) ?_
            refine AllReadyIn.cons rfl (fun K hK => ?_) AllReadyIn.nil
            go_simp
            refine ⟨trivial, ?_⟩; gi_at_call 32; refine (CallsIn.inRound l (callsIn_wide.2 (hln'.out _))).mono ?_; rintro e w5 ⟨rfl, hb5⟩; have hT5 := Lib.hid (One.below hT'.out.drew hb5); have c3 : w5.cell? ⟨N, 0, none⟩ = some (.string L) := Blk.cell (FK.cells (One.fact hT5.out).1.1.1).2.2.1 0
            refine hK _ _ ?_
            clear hK K
            try simp only [Act.put, List.setIfInBounds_toArray, List.set_cons_zero, List.set_cons_succ]
            refine wpAnyIn_ready (rs := [8]) (by kernel_rfl) (by simp) ?_
            refine AllReadyIn.cons rfl (fun K hK => ?_) AllReadyIn.nil
            go_simp
            refine hK _ _ ?_
            clear hK K
            try simp only [Act.put, List.setIfInBounds_toArray, List.set_cons_zero, List.set_cons_succ]
            refine wpAnyIn_ready (rs := [9]) (by kernel_rfl) (by simp) ?_
            refine AllReadyIn.cons rfl (fun K hK => ?_) AllReadyIn.nil
            go_simp
            refine hK _ _ ?_
            clear hK K
            try simp only [Act.put, List.setIfInBounds_toArray, List.set_cons_zero, List.set_cons_succ]
            refine wpAnyIn_done (by kernel_rfl) ?_ _
            have hfc := Lib.hid (One.fact hT5.out).1
            obtain ⟨z1, z2, z3, z4, z5, z6⟩ := Blk.c6 hfc.out.2
            obtain ⟨f1, f2, f3, f4⟩ := FK.cells hfc.out.1.1
            have g1 : w5.cell? ⟨w.heap.size, 0, none⟩ = some (.int .i64 0) := Blk.cell f1 0
            have g2 : w5.cell? ⟨w.heap.size, 1, none⟩ = some (.bool false) := Blk.cell f1 1
            have g3 : w5.cell? ⟨w.heap.size, 2, none⟩ = some (.bool false) := Blk.cell f1 2
            have g4 : w5.cell? ⟨w.heap.size + 1, 0, none⟩ = some (.bool false) := Blk.cell f2 0
            have k1 := Blk.frozen f1 0
            have k2 := Blk.frozen f1 1
            have k3 := Blk.frozen f1 2
            have k4 := Blk.frozen f2 0
            clear f1 f2 f3 f4 hfc
            gi_wp2
            have hF : findA M nm = (X, I, false, true) := hat'.out hpre'.out (by rw [hfx'.out]; simp [hq'.out])
            exact One.keep (FK.store One.st (One.keep hT5.out fun O h => h.left.left.left.and ((Keep.pure (p := Code.ret = Code.ret ∧ findA M nm = (X, I, false, true)) ⟨rfl, hF⟩).and h.right)) (Nat.le_refl _) hlt1 (fun hj => by rcases hj with hj | hj; exact hj; have := hK _ hj; omega) (fun hj => by rcases hj with hj | hj; exact hj; have := hK _ hj; omega) X I false true) fun O h => (h.left.and h.right.left).and h.right.right
          exact AllReadyIn.nil
        refine AllReadyIn.cons rfl (fun K hK => ?_) ?_
        ·
          go_simp
          refine hK _ _ ?_
          clear hK K
          try simp only [Act.put, List.setIfInBounds_toArray, List.set_cons_zero, List.set_cons_succ]
          refine wpAnyIn_ready (rs := [4]) (by kernel_rfl) (by simp) ?_
          refine AllReadyIn.cons rfl (fun K hK => ?_) AllReadyIn.nil
          go_simp
          refine hK _ _ ?_
          clear hK K
          try simp only [Act.put, List.setIfInBounds_toArray, List.set_cons_zero, List.set_cons_succ]
          refine wpAnyIn_ready (rs := [5]) (by kernel_rfl) (by simp) ?_
          refine AllReadyIn.cons rfl (fun K hK => ?_) AllReadyIn.nil
          go_simp
          refine hK _ _ ?_
          clear hK K
          try simp only [Act.put, List.setIfInBounds_toArray, List.set_cons_zero, List.set_cons_succ]
          refine wpAnyIn_ready (rs := [6]) (by kernel_rfl) (by simp) ?_
          refine AllReadyIn.cons rfl (fun K hK => ?_) AllReadyIn.nil
          go_simp
          refine ⟨trivial, ?_⟩; gi_at_call 32; refine (CallsIn.inRound l (callsIn_wide.2 (hln'.out _))).mono ?_; rintro e w5 ⟨rfl, hb5⟩; have hT5 := Lib.hid (One.below hT'.out.drew hb5); have c3 : w5.cell? ⟨N, 0, none⟩ = some (.string L) := Blk.cell (FK.cells (One.fact hT5.out).1.1.1).2.2.1 0
          refine hK _ _ ?_
          clear hK K
          try simp only [Act.put, List.setIfInBounds_toArray, List.set_cons_zero, List.set_cons_succ]
          refine wpAnyIn_ready (rs := [8]) (by kernel_rfl) (by simp) ?_
          refine AllReadyIn.cons rfl (fun K hK => ?_) AllReadyIn.nil
          go_simp
          refine hK _ _ ?_
          clear hK K
          try simp only [Act.put, List.setIfInBounds_toArray, List.set_cons_zero, List.set_cons_succ]
          refine wpAnyIn_ready (rs := [9]) (by kernel_rfl) (by simp) ?_
          refine AllReadyIn.cons rfl (fun K hK => ?_) AllReadyIn.nil
          go_simp
          refine hK _ _ ?_
          clear hK K
          try simp only [Act.put, List.setIfInBounds_toArray, List.set_cons_zero, List.set_cons_succ]
          refine wpAnyIn_done (by kernel_rfl) ?_ _
          have hfc := Lib.hid (One.fact hT5.out).1
          obtain ⟨z1, z2, z3, z4, z5, z6⟩ := Blk.c6 hfc.out.2
          obtain ⟨f1, f2, f3, f4⟩ := FK.cells hfc.out.1.1
          have g1 : w5.cell? ⟨w.heap.size, 0, none⟩ = some (.int .i64 0) := Blk.cell f1 0
          have g2 : w5.cell? ⟨w.heap.size, 1, none⟩ = some (.bool false) := Blk.cell f1 1
          have g3 : w5.cell? ⟨w.heap.size, 2, none⟩ = some (.bool false) := Blk.cell f1 2
          have g4 : w5.cell? ⟨w.heap.size + 1, 0, none⟩ = some (.bool false) := Blk.cell f2 0
          have k1 := Blk.frozen f1 0
          have k2 := Blk.frozen f1 1
          have k3 := Blk.frozen f1 2
          have k4 := Blk.frozen f2 0
          clear f1 f2 f3 f4 hfc
          gi_wp2
          have hF : findA M nm = (X, I, false, true) := hat'.out hpre'.out (by rw [hfx'.out]; simp [hq'.out])
          exact One.keep (FK.store One.st (One.keep hT5.out fun O h => h.left.left.left.and ((Keep.pure (p := Code.ret = Code.ret ∧ findA M nm = (X, I, false, true)) ⟨rfl, hF⟩).and h.right)) (Nat.le_refl _) hlt1 (fun hj => by rcases hj with hj | hj; exact hj; have := hK _ hj; omega) (fun hj => by rcases hj with hj | hj; exact hj; have := hK _ hj; omega) X I false true) fun O h => (h.left.and h.right.left).and h.right.right
        exact AllReadyIn.nil
  case stop =>
    intro D c k x W hx hD hT
    have hgd : (wordsL M).getD k 0 = x := by rw [List.getD, hx]; rfl
    rw [hgd] at hT
    obtain ⟨⟨hFK, rfl, hF1⟩, hDk⟩ := One.fact hT
    have hF := Lib.hid hF1
    clear hF1
    obtain ⟨f1, f2, f3, f4⟩ := FK.cells hFK
    have hT2 := One.st.putObj hT (show w.heap.size ≤ D by omega) (fun hj => by
      rcases hj with hj | hj
      · have := FK.lt hlt1 hj
        omega
      · exact hj) (.deferred none)
    obtain ⟨g1, g2, g3, g4⟩ := FK.cells (One.fact hT2).1.1
    have c0 : (W.putObj D (.deferred none)).cell? ⟨w.heap.size, 0, none⟩ = some (.int .i64 (rdXt M x)) := Blk.cell g1 0
    have c1 : (W.putObj D (.deferred none)).cell? ⟨w.heap.size, 1, none⟩ = some (.bool (immL M x)) := Blk.cell g1 1
    have c2 : (W.putObj D (.deferred none)).cell? ⟨w.heap.size, 2, none⟩ = some (.bool false) := Blk.cell g1 2
    have c3 : (W.putObj D (.deferred none)).cell? ⟨w.heap.size + 1, 0, none⟩ = some (.bool true) := Blk.cell g2 0
    gi_wp2
    refine ⟨by simp, .inl ⟨_, _, rfl, run_takeDeferred hDk, ?_⟩⟩
    refine ⟨findR (findA M nm), ?_, hT2.memQ _⟩
    rw [hF.out]
    unfold findR
    simp [results, Try.results14, go_sem, c0, c1, c2, c3]
  case done =>
    intro D W hD hT
    obtain ⟨⟨hFK, hno⟩, hDk⟩ := One.fact hT
    rw [List.take_length] at hno
    have hfd : findA M nm = primA (numOf (large nm).data.toList) := find_no (hL.out ▸ hno)
    have hFn := Lib.hid (fun (w9 : World) => wFind nm hn w9)
    generalize numOf (large nm).data.toList = n at *
    replace hfd := Lib.hid hfd
    clear hFK hno
    have hD1 : ¬ (Kp.obj D (.deferred (some []))).S w.heap.size := fun h => by
      have : w.heap.size = D := h
      omega
    have hD2 : ¬ (Kp.obj D (.deferred (some []))).S (w.heap.size + 1) := fun h => by
      have : w.heap.size + 1 = D := h
      omega
    have hD3 : ∀ {xt : Int} {im cm is : Bool}, ¬ (FK w.heap.size N mb xt im cm is L).S D := fun hj => by
      have := FK.lt hlt1 hj
      omega
    gi_wp2
    refine ⟨trivial, ?_⟩
    gi_at_call 33
    refine (callsIn_wide.2 (One.still hT (hFn.out _))).mono ?_
    rintro e w3 ⟨rfl, hT3⟩
    clear hT hDk
    by_cases hc : 1 ≤ n ∧ n ≤ 141
    · have hOf := Lib.hid (fun (w9 : World) => wOf n hc.1 hc.2 w9)
      have hXt := Lib.hid (fun (w9 : World) => wXt n w9)
      rw [if_pos hc] at hXt
      have hpa : primA n = (n * 8, (rowL.getD n.toNat default).2.2.2.1, (rowL.getD n.toNat default).2.2.2.2, true) := if_pos hc
      generalize rowL.getD n.toNat default = ro at *
      obtain ⟨pn, pt, pl, pi, pc⟩ := ro
      unfold primV at hOf
      replace hpa := Lib.hid hpa
      obtain ⟨q8, hq8⟩ : ∃ q8, q8 = n * 8 := ⟨_, rfl⟩
      rw [← hq8] at hXt hpa
      clear hq8 hc
      gi_wp2
      refine ⟨trivial, ?_⟩
      gi_at_call 34
      refine (callsIn_wide.2 (One.still hT3 (hOf.out _))).mono ?_
      rintro e w4 ⟨rfl, hT4⟩
      have hT5 := One.new hT4 #[.string pn, .int .i64 pt, .int .i64 pl, .bool pi, .bool pc] 73
      obtain ⟨P, hP⟩ : ∃ P, P = w4.heap.size := ⟨_, rfl⟩
      obtain ⟨w5, hw5⟩ : ∃ w5, w5 = w4.alloc (.cells #[.string pn, .int .i64 pt, .int .i64 pl, .bool pi, .bool pc] 73) := ⟨_, rfl⟩
      clear hT3
      gi_wp2
      rw [← hw5, ← hP] at hT5 ⊢
      have hPr : w.heap.size + 1 < P := by
        have := hT4.slt (.inl (.inl (.inl (.inl (.inr rfl)))))
        omega
      clear hw5 hP hT4
      refine wpIn_wide.2 ?_
      replace hT5 := hT5.drew
      have hS := (One.fact hT5).2
      refine wp_region_noPanic ?_
      refine wp_region_held_drew (S := (fun w9 => Blk w9 P #[.string pn, .int .i64 pt, .int .i64 pl, .bool pi, .bool pc] 73)) (by kernel_rfl) ?_ (fun hHeld => ?_)
      · (try dsimp only); first | exact hS | (repeat (first | (with_reducible assumption) | (with_reducible refine Blk.new' ?_; first | rfl | (simp; done) | (simp; omega)) | (with_reducible apply Blk.set01) | (with_reducible apply Blk.set0) | (with_reducible apply Blk.set1) | (with_reducible apply Blk.setOne) | (with_reducible refine Blk.set_other ?_ (by omega) _ _) | (with_reducible apply Blk.alloc) | (with_reducible apply Blk.drew) | (with_reducible refine Blk.below ?_ (by with_reducible assumption))))
      refine wpAnyH_take (i := 0) (oi := { dst := some 41, op := Go.Op.move (Go.Operand.tmp 8), type := 3, pos := "dict.go:42", after := #[], guard := none }) (v := ?v1) rfl (by kernel_rfl) (by kernel_rfl) (by kernel_rfl) (fun _ _ _ h => h) (Or.inl ⟨by rfl, ?hy1⟩) (by assumption) ?rest1
      case hy1 => (intro w hSw; (try dsimp only at hSw); obtain ⟨y1, y2, y3, y4, y5, y6⟩ := (show Blk w P #[.string pn, .int .i64 pt, .int .i64 pl, .bool pi, .bool pc] 73 from hSw).five; go_simp <;> with_reducible rfl)
      try simp only [Act.put, List.setIfInBounds_toArray, List.set_cons_zero, List.set_cons_succ]
      refine wpAnyH_take (i := 2) (oi := { dst := some 43, op := Go.Op.fieldAddr 73 (Go.Operand.tmp 9) 3, type := 0, pos := "dict.go:42", after := #[], guard := none }) (v := ?v2) rfl (by kernel_rfl) (by kernel_rfl) (by kernel_rfl) (fun _ _ _ h => h) (Or.inl ⟨by rfl, ?hy2⟩) (by assumption) ?rest2
      case hy2 => (intro w hSw; (try dsimp only at hSw); obtain ⟨y1, y2, y3, y4, y5, y6⟩ := (show Blk w P #[.string pn, .int .i64 pt, .int .i64 pl, .bool pi, .bool pc] 73 from hSw).five; go_simp <;> with_reducible rfl)
      try simp only [Act.put, List.setIfInBounds_toArray, List.set_cons_zero, List.set_cons_succ]
      refine wpAnyH_take (i := 3) (oi := { dst := some 44, op := Go.Op.load 4 (Go.Operand.tmp 43), type := 4, pos := "dict.go:42", after := #[{ on := 2, ground := Go.Ground.data }], guard := none }) (v := ?v3) rfl (by kernel_rfl) (by kernel_rfl) (by kernel_rfl) (fun _ _ _ h => h) (Or.inl ⟨by rfl, ?hy3⟩) (by assumption) ?rest3
      case hy3 => (intro w hSw; (try dsimp only at hSw); obtain ⟨y1, y2, y3, y4, y5, y6⟩ := (show Blk w P #[.string pn, .int .i64 pt, .int .i64 pl, .bool pi, .bool pc] 73 from hSw).five; go_simp <;> with_reducible rfl)
      try simp only [Act.put, List.setIfInBounds_toArray, List.set_cons_zero, List.set_cons_succ]
      refine wpAnyH_take (i := 4) (oi := { dst := some 45, op := Go.Op.fieldAddr 73 (Go.Operand.tmp 9) 4, type := 0, pos := "dict.go:42", after := #[], guard := none }) (v := ?v4) rfl (by kernel_rfl) (by kernel_rfl) (by kernel_rfl) (fun _ _ _ h => h) (Or.inl ⟨by rfl, ?hy4⟩) (by assumption) ?rest4
      case hy4 => (intro w hSw; (try dsimp only at hSw); obtain ⟨y1, y2, y3, y4, y5, y6⟩ := (show Blk w P #[.string pn, .int .i64 pt, .int .i64 pl, .bool pi, .bool pc] 73 from hSw).five; go_simp <;> with_reducible rfl)
      try simp only [Act.put, List.setIfInBounds_toArray, List.set_cons_zero, List.set_cons_succ]
      refine wpAnyH_take (i := 5) (oi := { dst := some 46, op := Go.Op.load 4 (Go.Operand.tmp 45), type := 4, pos := "dict.go:42", after := #[{ on := 4, ground := Go.Ground.data }], guard := none }) (v := ?v5) rfl (by kernel_rfl) (by kernel_rfl) (by kernel_rfl) (fun _ _ _ h => h) (Or.inl ⟨by rfl, ?hy5⟩) (by assumption) ?rest5
      case hy5 => (intro w hSw; (try dsimp only at hSw); obtain ⟨y1, y2, y3, y4, y5, y6⟩ := (show Blk w P #[.string pn, .int .i64 pt, .int .i64 pl, .bool pi, .bool pc] 73 from hSw).five; go_simp <;> with_reducible rfl)
      try simp only [Act.put, List.setIfInBounds_toArray, List.set_cons_zero, List.set_cons_succ]
      refine wpAnyH_ready (rs := [1]) (by kernel_rfl) (by simp) ?_
      refine AllReadyH.cons (o := { dst := some 42, op := Go.Op.call { callee := Go.Callee.value (Go.Operand.func 35), args := #[Go.Operand.tmp 41], argTypes := #[3] }, type := 2, pos := "dict.go:42", after := #[{ on := 0, ground := Go.Ground.data }], guard := none }) rfl (fun K hK => ?_) AllReadyH.nil
      go_simp
      go_at_call 35; refine (One.still hT5 (hXt.out _)).mono ?_; rintro e w6 ⟨rfl, hT6⟩; have hS := (One.fact hT6).2; have hT7 := One.keep hT6 (L := (FK w.heap.size N mb 0 false false false L).and (.obj D (.deferred (some [])))) fun O h => h.left.left.left.and h.left.right; have hfc := Lib.hid (One.fact hT7).1; obtain ⟨f1, f2, f3, f4⟩ := FK.cells hfc.out; have g1 : w6.cell? ⟨w.heap.size, 0, none⟩ = some (.int .i64 0) := Blk.cell f1 0; have g2 : w6.cell? ⟨w.heap.size, 1, none⟩ = some (.bool false) := Blk.cell f1 1; have g3 : w6.cell? ⟨w.heap.size, 2, none⟩ = some (.bool false) := Blk.cell f1 2; have g4 : w6.cell? ⟨w.heap.size + 1, 0, none⟩ = some (.bool false) := Blk.cell f2 0; have k1 := Blk.frozen f1 0; have k2 := Blk.frozen f1 1; have k3 := Blk.frozen f1 2; have k4 := Blk.frozen f2 0; clear f1 f2 f3 f4 hfc
      refine hK.out _ _ ?_ (fun hHeld2 => ?_)
      · (try dsimp only); first | exact hS | (repeat (first | (with_reducible assumption) | (with_reducible refine Blk.new' ?_; first | rfl | (simp; done) | (simp; omega)) | (with_reducible apply Blk.set01) | (with_reducible apply Blk.set0) | (with_reducible apply Blk.set1) | (with_reducible apply Blk.setOne) | (with_reducible refine Blk.set_other ?_ (by omega) _ _) | (with_reducible apply Blk.alloc) | (with_reducible apply Blk.drew) | (with_reducible refine Blk.below ?_ (by with_reducible assumption))))
      clear hK K hHeld
      have hHeld := hHeld2
      clear hHeld2
      try simp only [Act.put, List.setIfInBounds_toArray, List.set_cons_zero, List.set_cons_succ]
      refine wpAnyH_take (i := 6) (oi := { dst := some 47, op := Go.Op.build 37 #[(0, Go.Operand.tmp 42), (1, Go.Operand.tmp 44), (2, Go.Operand.tmp 46)], type := 37, pos := "dict.go:42", after := #[{ on := 1, ground := Go.Ground.data }, { on := 3, ground := Go.Ground.data }, { on := 5, ground := Go.Ground.data }], guard := none }) (v := ?v6) rfl (by kernel_rfl) (by kernel_rfl) (by kernel_rfl) (fun _ _ _ h => h) (Or.inl ⟨by rfl, ?hy6⟩) (by assumption) ?rest6
      case hy6 => (intro w hSw; (try dsimp only at hSw); obtain ⟨y1, y2, y3, y4, y5, y6⟩ := (show Blk w P #[.string pn, .int .i64 pt, .int .i64 pl, .bool pi, .bool pc] 73 from hSw).five; go_simp <;> with_reducible rfl)
      try simp only [Act.put, List.setIfInBounds_toArray, List.set_cons_zero, List.set_cons_succ]
      refine wpAnyH_ready (rs := [7]) (by kernel_rfl) (by simp) ?_
      refine AllReadyH.cons (o := { dst := none, op := Go.Op.store 37 (Go.Operand.tmp 4) (Go.Operand.tmp 47), type := 0, pos := "dict.go:42", after := #[{ on := 6, ground := Go.Ground.data }, { on := 1, ground := Go.Ground.chain }, { on := 0, ground := Go.Ground.phase }, { on := 1, ground := Go.Ground.phase }, { on := 2, ground := Go.Ground.phase }, { on := 3, ground := Go.Ground.phase }, { on := 4, ground := Go.Ground.phase }, { on := 5, ground := Go.Ground.phase }, { on := 6, ground := Go.Ground.phase }], guard := none }) rfl (fun K hK => ?_) AllReadyH.nil
      go_simp
      refine hK.out _ _ ?_ (fun hHeld2 => ?_)
      · (try dsimp only); first | exact hS | (repeat (first | (with_reducible assumption) | (with_reducible refine Blk.new' ?_; first | rfl | (simp; done) | (simp; omega)) | (with_reducible apply Blk.set01) | (with_reducible apply Blk.set0) | (with_reducible apply Blk.set1) | (with_reducible apply Blk.setOne) | (with_reducible refine Blk.set_other ?_ (by omega) _ _) | (with_reducible apply Blk.alloc) | (with_reducible apply Blk.drew) | (with_reducible refine Blk.below ?_ (by with_reducible assumption))))
      clear hK K hHeld
      have hHeld := hHeld2
      clear hHeld2
      try simp only [Act.put, List.setIfInBounds_toArray, List.set_cons_zero, List.set_cons_succ]
      refine wpAnyH_ready (rs := [8]) (by kernel_rfl) (by simp) ?_
      refine AllReadyH.cons (o := { dst := none, op := Go.Op.store 4 (Go.Operand.tmp 5) (Go.Operand.const (Go.Value.bool true)), type := 0, pos := "dict.go:42", after := #[{ on := 7, ground := Go.Ground.chain }, { on := 0, ground := Go.Ground.phase }, { on := 1, ground := Go.Ground.phase }, { on := 2, ground := Go.Ground.phase }, { on := 3, ground := Go.Ground.phase }, { on := 4, ground := Go.Ground.phase }, { on := 5, ground := Go.Ground.phase }, { on := 6, ground := Go.Ground.phase }, { on := 7, ground := Go.Ground.phase }], guard := none }) rfl (fun K hK => ?_) AllReadyH.nil
      go_simp
      refine hK.out _ _ ?_ (fun hHeld2 => ?_)
      · (try dsimp only); first | exact hS | (repeat (first | (with_reducible assumption) | (with_reducible refine Blk.new' ?_; first | rfl | (simp; done) | (simp; omega)) | (with_reducible apply Blk.set01) | (with_reducible apply Blk.set0) | (with_reducible apply Blk.set1) | (with_reducible apply Blk.setOne) | (with_reducible refine Blk.set_other ?_ (by omega) _ _) | (with_reducible apply Blk.alloc) | (with_reducible apply Blk.drew) | (with_reducible refine Blk.below ?_ (by with_reducible assumption))))
      clear hK K hHeld
      have hHeld := hHeld2
      clear hHeld2
      try simp only [Act.put, List.setIfInBounds_toArray, List.set_cons_zero, List.set_cons_succ]
      refine wpAnyH_done (by kernel_rfl) ?_ _
      refine NoPanic.normal ?_
      gi_wp2
      have hs0 := FK.store One.st (One.keep (hT7) fun O h => h) (Nat.le_refl _) hlt1 hD1 hD2 q8 pi pc true
      obtain ⟨wz, hwz⟩ : ∃ wz, wz = (((w6.setCell ⟨w.heap.size, 0, none⟩ (.int .i64 q8)).setCell ⟨w.heap.size, 1, none⟩ (.bool pi)).setCell ⟨w.heap.size, 2, none⟩ (.bool pc)).setCell ⟨w.heap.size + 1, 0, none⟩ (.bool true) := ⟨_, rfl⟩
      rw [← hwz] at hs0 ⊢
      have hDk : wz.heap[D]? = some (.deferred (some [])) := (One.fact hs0).2
      have hs2 := One.st.putObj hs0 (show w.heap.size ≤ D by omega) hD3 (.deferred none)
      obtain ⟨g1, g2, g3, g4⟩ := FK.cells (One.fact hs2).1
      have c0 : (wz.putObj D (.deferred none)).cell? ⟨w.heap.size, 0, none⟩ = some (.int .i64 q8) := Blk.cell g1 0
      have c1 : (wz.putObj D (.deferred none)).cell? ⟨w.heap.size, 1, none⟩ = some (.bool pi) := Blk.cell g1 1
      have c2 : (wz.putObj D (.deferred none)).cell? ⟨w.heap.size, 2, none⟩ = some (.bool pc) := Blk.cell g1 2
      have c3 : (wz.putObj D (.deferred none)).cell? ⟨w.heap.size + 1, 0, none⟩ = some (.bool true) := Blk.cell g2 0
      refine ⟨by simp, .inl ⟨_, _, rfl, run_takeDeferred hDk, ?_⟩⟩
      refine ⟨findR (findA M nm), ?_, hs2.memQ _⟩
      rw [hfd.out, hpa.out]
      unfold findR
      simp [results, Try.results14, go_sem, c0, c1, c2, c3]
    · have hOf := Lib.hid (fun (w9 : World) => wOf_no n hc w9)
      have hpa : primA n = (0, false, false, false) := if_neg hc
      unfold primV noPrim at hOf
      replace hpa := Lib.hid hpa
      clear hc
      gi_wp2
      refine ⟨trivial, ?_⟩
      gi_at_call 34
      refine (callsIn_wide.2 (One.still hT3 (hOf.out _))).mono ?_
      rintro e w4 ⟨rfl, hT4⟩
      clear hT3
      have hT5 := One.keep (One.new hT4 #[.string ⟨#[]⟩, .int .i64 0, .int .i64 0, .bool false, .bool false] 73) (L := (FK w.heap.size N mb 0 false false false L).and (.obj D (.deferred (some [])))) fun O h => h.left.left.left.and h.left.right
      have hfc := Lib.hid (One.fact hT5).1
      obtain ⟨f1, f2, f3, f4⟩ := FK.cells hfc.out
      have g1 : (w4.alloc (.cells #[.string ⟨#[]⟩, .int .i64 0, .int .i64 0, .bool false, .bool false] 73)).cell? ⟨w.heap.size, 0, none⟩ = some (.int .i64 0) := Blk.cell f1 0
      have g2 : (w4.alloc (.cells #[.string ⟨#[]⟩, .int .i64 0, .int .i64 0, .bool false, .bool false] 73)).cell? ⟨w.heap.size, 1, none⟩ = some (.bool false) := Blk.cell f1 1
      have g3 : (w4.alloc (.cells #[.string ⟨#[]⟩, .int .i64 0, .int .i64 0, .bool false, .bool false] 73)).cell? ⟨w.heap.size, 2, none⟩ = some (.bool false) := Blk.cell f1 2
      have g4 : (w4.alloc (.cells #[.string ⟨#[]⟩, .int .i64 0, .int .i64 0, .bool false, .bool false] 73)).cell? ⟨w.heap.size + 1, 0, none⟩ = some (.bool false) := Blk.cell f2 0
      have k1 := Blk.frozen f1 0
      have k2 := Blk.frozen f1 1
      have k3 := Blk.frozen f1 2
      have k4 := Blk.frozen f2 0
      clear f1 f2 f3 f4 hfc
      gi_wp2
      have hs0 := FK.store One.st (One.keep (hT5) fun O h => h) (Nat.le_refl _) hlt1 hD1 hD2 0 false false false
      obtain ⟨wz, hwz⟩ : ∃ wz, wz = ((((w4.alloc (.cells #[.string ⟨#[]⟩, .int .i64 0, .int .i64 0, .bool false, .bool false] 73)).setCell ⟨w.heap.size, 0, none⟩ (.int .i64 0)).setCell ⟨w.heap.size, 1, none⟩ (.bool false)).setCell ⟨w.heap.size, 2, none⟩ (.bool false)).setCell ⟨w.heap.size + 1, 0, none⟩ (.bool false) := ⟨_, rfl⟩
      rw [← hwz] at hs0 ⊢
      have hDk : wz.heap[D]? = some (.deferred (some [])) := (One.fact hs0).2
      have hs2 := One.st.putObj hs0 (show w.heap.size ≤ D by omega) hD3 (.deferred none)
      obtain ⟨g1, g2, g3, g4⟩ := FK.cells (One.fact hs2).1
      have c0 : (wz.putObj D (.deferred none)).cell? ⟨w.heap.size, 0, none⟩ = some (.int .i64 0) := Blk.cell g1 0
      have c1 : (wz.putObj D (.deferred none)).cell? ⟨w.heap.size, 1, none⟩ = some (.bool false) := Blk.cell g1 1
      have c2 : (wz.putObj D (.deferred none)).cell? ⟨w.heap.size, 2, none⟩ = some (.bool false) := Blk.cell g1 2
      have c3 : (wz.putObj D (.deferred none)).cell? ⟨w.heap.size + 1, 0, none⟩ = some (.bool false) := Blk.cell g2 0
      refine ⟨by simp, .inl ⟨_, _, rfl, run_takeDeferred hDk, ?_⟩⟩
      refine ⟨findR (findA M nm), ?_, hs2.memQ _⟩
      rw [hfd.out, hpa.out]
      unfold findR
      simp [results, Try.results14, go_sem, c0, c1, c2, c3]
end Go.Proofs.Ytcfblcgdjhpdaaa

/- The reference's 'Find'. -/
namespace Go.Proofs.Ytcfblcgdjhpdaaa
open Go.RowKit
set_option linter.unusedVariables false
set_option linter.unusedSimpArgs false
attribute [local go_sem] cell_set set_set m_undef
attribute [local irreducible] cells19 cells20 rowL tabL

theorem storeR {W w : World} {B rb : Nat} {M : List UInt8} {R : Nat → Prop} {xt : Int} {im cm : Bool} {b : Nat} (h : Onr W w B rb M R (.blk b #[.int .i64 xt, .bool im, .bool cm] 37)) (hb : W.heap.size ≤ b) (X : Int) (I C : Bool) :
    Onr W (((w.setCell ⟨b, 0, none⟩ (.int .i64 X)).setCell ⟨b, 1, none⟩ (.bool I)).setCell ⟨b, 2, none⟩ (.bool C)) B rb M R (Kp.emp.and (.blk b #[.int .i64 X, .bool I, .bool C] 37)) :=
  Onr.set (Onr.set (Onr.set (h.keep (L := Kp.emp.and (.blk b #[.int .i64 xt, .bool im, .bool cm] 37)) fun O h => (Keep.emp _ _).and h) hb id 0 (.int .i64 X)) hb id 1 (.bool I)) hb id 2 (.bool C)
attribute [local irreducible] wordsL latestL rdOk rdV linkL nameL immL hidL rdXt loadL hereL large numOf
set_option maxRecDepth 100000 in
set_option maxHeartbeats 2000000 in
theorem rFindW {w : World} {B rb : Nat} {M : List UInt8} {R : Nat → Prop} (h : RefP w B rb M R) (nm : ByteArray) (hn : nm.size ≤ 1000) :
    Calls Try.prog 15 #[.pointer (some ⟨rb, 0, none⟩), .string nm] w fun e w' => RefQ w w' B rb M R (findR (findA M nm)) e := by
  have hS := Onr.start h h.base_le'
  have hLg := Lib.hid (fun (s : ByteArray) (hs : s.size ≤ 1000) (w9 : World) => rLarge s hs w9)
  have hWd := Lib.hid (fun (w9 : World) (O : Nat → Prop) (h : RefP w9 B rb M O) => rWords h)
  have hxk := Lib.hid (fun (k : Nat) (x : Int) (hx : (wordsL M)[k]? = some x) => wordsL_ok hx)
  have hfa := Lib.hid (fun (k : Nat) (x : Int) (hx : (wordsL M)[k]? = some x) => @find_at M nm k x hx)
  have hfn := Lib.hid (@find_no M nm)
  have hln := wordsL_len M
  clear h
  generalize wordsL M = xs at *
  obtain ⟨N, hN⟩ : ∃ N, N = xs.length := ⟨_, rfl⟩
  rw [← hN] at hWd hln
  replace hN := Lib.hid hN
  go_enter Try.func15, Try.ntmps15
  have hS2 := hS.new #[.int .i64 0, .bool false, .bool false] 37
  clear hS; have hS := hS2; clear hS2
  obtain ⟨w0, hw0⟩ : ∃ w0, w0 = w.alloc (.cells #[.int .i64 0, .bool false, .bool false] 37) := ⟨_, rfl⟩
  have hs0 : w.heap.size + 1 = w0.heap.size := by rw [hw0]; simp
  rw [← hw0] at hS
  go_upto_region 1 with fail
  rw [← hw0]
  clear hw0
  go_wp2_with (go_at_call 13; refine (hS.refX (fun O h hb => hWd.out _ _ h)).mono ?_; rintro e w1 ⟨v, rfl, hS2⟩; obtain ⟨ad, cp, rfl, hle⟩ := hS2.fact.2.1.form; clear hle; clear hS; have hS := hS2; clear hS2)
  obtain ⟨L, hL⟩ : ∃ L, L = large nm := ⟨_, rfl⟩
  have hl1 := Lib.hid (hLg.out nm hn)
  rw [← hL] at hfa hfn hl1
  replace hL := Lib.hid hL
  replace hS := hS.keep (L := ((Kp.emp.and (.blk w.heap.size #[.int .i64 0, .bool false, .bool false] 37)).and (.vs 6 (.slice ad N cp) N (hcs M xs)))) fun O h => h.left.and h.right.left
  go_loopw [14] (fun i wr => ∃ k : Nat, i = .int .i64 (k : Int) ∧ k ≤ N ∧ (∀ y ∈ xs.take k, hitL M L y = false) ∧ Onr w wr B rb M R ((Kp.emp.and (.blk w.heap.size #[.int .i64 0, .bool false, .bool false] 37)).and (.vs 6 (.slice ad N cp) N (hcs M xs)))) (fun i _ => N - (intOf i).toNat)
  case atStart => exact ⟨0, rfl, Nat.zero_le _, fun y hy => by simp at hy, hS⟩
  case round =>
  obtain ⟨k, rfl, hk, hpre, hS⟩ := hrel
  by_cases hlt : k < N
  · obtain ⟨bv, o, cq, e⟩ := hS.fact.2.some_of (by omega)
    cases e
    obtain ⟨x, hx⟩ : ∃ x, xs[k]? = some x := ⟨xs[k]'(by rw [← hN.out]; exact hlt), List.getElem?_eq_getElem _⟩
    have hfx : hitL M L x = (!hidL M x && ((large ⟨(nameL M x).toArray⟩).toList == L.toList)) := rfl
    have hsm := nameL_len M x
    have hlh := hLg.out ⟨(nameL M x).toArray⟩ (show (nameL M x).toArray.size ≤ 1000 by simpa using hsm)
    have hat := hfa.out k x hx
    have hcell : ∀ (i : Nat) (u : Value), (hc M x)[i]? = some u → wr.cell? ⟨bv, o + k * 6 + i, none⟩ = some u := fun i u hu => by
      have := hS.fact.2.cell (k * 6 + i) u (hcs_at M xs k i x u hx hu)
      rwa [← Nat.add_assoc] at this
    have z0 : wr.cell? ⟨bv, o + k * 6, none⟩ = some (.int .i64 x) := hcell 0 _ rfl
    have z1 := hcell 1 _ rfl
    have z2 := hcell 2 _ rfl
    have z3 := hcell 3 _ rfl
    have z4 := hcell 4 _ rfl
    have z5 := hcell 5 _ rfl
    have htk := take_next hx
    clear hcell hsm
    generalize rdXt M x = X at *
    generalize linkL M x = Y at *
    generalize immL M x = I at *
    generalize hidL M x = D at *
    generalize (⟨(nameL M x).toArray⟩ : ByteArray) = H at *
    obtain ⟨LH, hLH⟩ : ∃ LH, LH = large H := ⟨_, rfl⟩
    rw [← hLH] at hlh hfx
    replace hlh := Lib.hid hlh
    replace hat := Lib.hid hat
    replace hfx := Lib.hid hfx
    replace hLH := Lib.hid hLH
    replace htk := Lib.hid htk
    replace hpre := Lib.hid hpre
    have hlt' := Lib.hid hlt
    replace hx := Lib.hid hx
    have hlN : N ≤ 8192 := hln
    have hw1 : IntKind.i64.wrap ((k : Int) + 1) = ((k + 1 : Nat) : Int) := by rw [IntKind.wrap_i64]; omega
    have hS2 := hS.new #[.int .i64 x, .int .i64 Y, .string H, .bool I, .bool D, .int .i64 X] 34
    obtain ⟨b1, hb1⟩ : ∃ b1, b1 = wr.heap.size := ⟨_, rfl⟩
    obtain ⟨w3, hw3⟩ : ∃ w3, w3 = wr.alloc (.cells #[.int .i64 x, .int .i64 Y, .string H, .bool I, .bool D, .int .i64 X] 34) := ⟨_, rfl⟩
    go_upto_region 4 with fail
    rw [← hw3, ← hb1] at hS2 ⊢
    clear hS hw3 hb1 z0 z1 z2 z3 z4 z5
    have hS := hS2
    clear hS2
    obtain ⟨y1, y2, y3, y4, y5, y6⟩ := hS.fact.2.c6
    cases D with
    | true =>
      go_wp2
      go_roundw
      case rel => exact ⟨k + 1, rfl, hlt'.out, fun z hz => by rw [htk.out] at hz; rcases List.mem_append.1 hz with hz | hz; exact hpre.out z hz; rw [List.mem_singleton.1 hz, hfx.out]; rfl, hS.keep fun O h => h.left⟩
      case measure => simp [intOf]; have := hlt'.out; omega
    | false =>
      cases hq : (LH.toList == L.toList) with
      | false =>
        have hq' := Lib.hid hq
        go_wp2_with (first | (go_at_call_of 36 H; refine (hS.still (hlh.out _)).mono ?_; rintro e w5 ⟨rfl, hS2⟩; clear hS; have hS := hS2; clear hS2) | (go_at_call_of 36 nm; refine (hS.still (hl1.out _)).mono ?_; rintro e w6 ⟨rfl, hS2⟩; clear hS; have hS := hS2; clear hS2))
        go_roundw
        case rel => exact ⟨k + 1, rfl, hlt'.out, fun z hz => by rw [htk.out] at hz; rcases List.mem_append.1 hz with hz | hz; exact hpre.out z hz; rw [List.mem_singleton.1 hz, hfx.out]; simpa using hq'.out, hS.keep fun O h => h.left⟩
        case measure => simp [intOf]; have := hlt'.out; omega
      | true =>
        have hq' := Lib.hid hq
        go_upto_region 5 with (first | (go_at_call_of 36 H; refine (hS.still (hlh.out _)).mono ?_; rintro e w5 ⟨rfl, hS2⟩; clear hS; have hS := hS2; clear hS2) | (go_at_call_of 36 nm; refine (hS.still (hl1.out _)).mono ?_; rintro e w6 ⟨rfl, hS2⟩; clear hS; have hS := hS2; clear hS2))
        obtain ⟨z1, z2, z3, z4, z5, z6⟩ := hS.fact.2.c6
        have fr := hS.fact.1.1.2
        have g1 : w6.cell? ⟨w.heap.size, 0, none⟩ = some (.int .i64 0) := Blk.cell fr 0
        have g2 : w6.cell? ⟨w.heap.size, 1, none⟩ = some (.bool false) := Blk.cell fr 1
        have g3 : w6.cell? ⟨w.heap.size, 2, none⟩ = some (.bool false) := Blk.cell fr 2
        have k1 := Blk.frozen fr 0
        have k2 := Blk.frozen fr 1
        have k3 := Blk.frozen fr 2
        clear fr
        have hF := Lib.hid (hat.out hpre.out (by rw [hfx.out]; simp [hq'.out]))
        go_wp2
        have hs0 := storeR (hS.keep fun O h => h.left.left.right) (by omega) X I false
        obtain ⟨wz, hwz⟩ : ∃ wz, wz = ((w6.setCell ⟨w.heap.size, 0, none⟩ (.int .i64 X)).setCell ⟨w.heap.size, 1, none⟩ (.bool I)).setCell ⟨w.heap.size, 2, none⟩ (.bool false) := ⟨_, rfl⟩
        rw [← hwz] at hs0 ⊢
        have fr : Blk wz w.heap.size #[.int .i64 X, .bool I, .bool false] 37 := hs0.fact.2
        have c0 : wz.cell? ⟨w.heap.size, 0, none⟩ = some (.int .i64 X) := Blk.cell fr 0
        have c1 : wz.cell? ⟨w.heap.size, 1, none⟩ = some (.bool I) := Blk.cell fr 1
        have c2 : wz.cell? ⟨w.heap.size, 2, none⟩ = some (.bool false) := Blk.cell fr 2
        have hq := hs0.refQ (findR (findA M nm))
        refine bodyPost_ret (v := findR (findA M nm)) ?_ rfl hq
        rw [hF.out]
        unfold findR
        simp [results, Try.results15, go_sem, c0, c1, c2]
  · have hkN : k = N := by omega
    have hpre2 : ∀ y ∈ xs, hitL M L y = false := by
      rw [hkN, hN.out, List.take_length] at hpre
      exact hpre
    have hfd : findA M nm = primA (numOf L.data.toList) := hfn.out hpre2
    have hFn := fun (w9 : World) => rFind nm hn w9
    rw [← hL.out] at hFn
    generalize numOf L.data.toList = n at *
    replace hFn := Lib.hid hFn
    replace hfd := Lib.hid hfd
    have t1 : ¬ k < N := hlt
    clear hpre hpre2
    by_cases hc : 1 ≤ n ∧ n ≤ 141
    · have hOf := Lib.hid (fun (w9 : World) => rOf n hc.1 hc.2 w9)
      have hXt := Lib.hid (fun (w9 : World) => rXt n w9)
      rw [if_pos hc] at hXt
      have hpa : primA n = (n * 8, (rowL.getD n.toNat default).2.2.2.1, (rowL.getD n.toNat default).2.2.2.2, true) := if_pos hc
      generalize rowL.getD n.toNat default = ro at *
      obtain ⟨pn, pt, pl, pi, pc⟩ := ro
      unfold primV at hOf
      replace hpa := Lib.hid hpa
      obtain ⟨q8, hq8⟩ : ∃ q8, q8 = n * 8 := ⟨_, rfl⟩
      rw [← hq8] at hXt hpa
      clear hq8 hc hlt
      go_upto_region 11 with (first
        | (go_at_call 37; refine (hS.still (hFn.out _)).mono ?_; rintro e w5 ⟨rfl, hS2⟩; clear hS; have hS := hS2; clear hS2)
        | (go_at_call 38; refine (hS.still (hOf.out _)).mono ?_; rintro e w4 ⟨rfl, hS2⟩; clear hS; have hS := hS2; clear hS2))
      have hS2 := hS.new #[.string pn, .int .i64 pt, .int .i64 pl, .bool pi, .bool pc] 73
      obtain ⟨P, hP⟩ : ∃ P, P = w4.heap.size := ⟨_, rfl⟩
      obtain ⟨w8, hw8⟩ : ∃ w8, w8 = w4.alloc (.cells #[.string pn, .int .i64 pt, .int .i64 pl, .bool pi, .bool pc] 73) := ⟨_, rfl⟩
      have hPr : w.heap.size + 0 < P := by
        have := hS.slt (.inl (.inr rfl))
        omega
      rw [← hw8, ← hP] at hS2 ⊢
      clear hw8 hP hS
      have hS := hS2.drew
      clear hS2
      have hB6 := hS.fact.2
      refine wp_region_noPanic ?_
      refine wp_region_held_drew (S := (fun w9 => Blk w9 P #[.string pn, .int .i64 pt, .int .i64 pl, .bool pi, .bool pc] 73)) (by kernel_rfl) ?_ (fun hHeld => ?_)
      · (try dsimp only); first | exact hB6 | (repeat (first | (with_reducible assumption) | (with_reducible refine Blk.new' ?_; first | rfl | (simp; done) | (simp; omega)) | (with_reducible apply Blk.set01) | (with_reducible apply Blk.set0) | (with_reducible apply Blk.set1) | (with_reducible apply Blk.setOne) | (with_reducible refine Blk.set_other ?_ (by omega) _ _) | (with_reducible apply Blk.alloc) | (with_reducible apply Blk.drew) | (with_reducible refine Blk.below ?_ (by with_reducible assumption))))
      refine wpAnyH_take (i := 0) (oi := { dst := some 45, op := Go.Op.move (Go.Operand.tmp 8), type := 3, pos := "ref.go:43", after := #[], guard := none }) (v := ?v1) rfl (by kernel_rfl) (by kernel_rfl) (by kernel_rfl) (fun _ _ _ h => h) (Or.inl ⟨by rfl, ?hy1⟩) (by assumption) ?rest1
      case hy1 => (intro w hSw; (try dsimp only at hSw); obtain ⟨y1, y2, y3, y4, y5, y6⟩ := (show Blk w P #[.string pn, .int .i64 pt, .int .i64 pl, .bool pi, .bool pc] 73 from hSw).five; go_simp <;> with_reducible rfl)
      try simp only [Act.put, List.setIfInBounds_toArray, List.set_cons_zero, List.set_cons_succ]
      refine wpAnyH_take (i := 2) (oi := { dst := some 47, op := Go.Op.fieldAddr 73 (Go.Operand.tmp 9) 3, type := 0, pos := "ref.go:43", after := #[], guard := none }) (v := ?v2) rfl (by kernel_rfl) (by kernel_rfl) (by kernel_rfl) (fun _ _ _ h => h) (Or.inl ⟨by rfl, ?hy2⟩) (by assumption) ?rest2
      case hy2 => (intro w hSw; (try dsimp only at hSw); obtain ⟨y1, y2, y3, y4, y5, y6⟩ := (show Blk w P #[.string pn, .int .i64 pt, .int .i64 pl, .bool pi, .bool pc] 73 from hSw).five; go_simp <;> with_reducible rfl)
      try simp only [Act.put, List.setIfInBounds_toArray, List.set_cons_zero, List.set_cons_succ]
      refine wpAnyH_take (i := 3) (oi := { dst := some 48, op := Go.Op.load 4 (Go.Operand.tmp 47), type := 4, pos := "ref.go:43", after := #[{ on := 2, ground := Go.Ground.data }], guard := none }) (v := ?v3) rfl (by kernel_rfl) (by kernel_rfl) (by kernel_rfl) (fun _ _ _ h => h) (Or.inl ⟨by rfl, ?hy3⟩) (by assumption) ?rest3
      case hy3 => (intro w hSw; (try dsimp only at hSw); obtain ⟨y1, y2, y3, y4, y5, y6⟩ := (show Blk w P #[.string pn, .int .i64 pt, .int .i64 pl, .bool pi, .bool pc] 73 from hSw).five; go_simp <;> with_reducible rfl)
      try simp only [Act.put, List.setIfInBounds_toArray, List.set_cons_zero, List.set_cons_succ]
      refine wpAnyH_take (i := 4) (oi := { dst := some 49, op := Go.Op.fieldAddr 73 (Go.Operand.tmp 9) 4, type := 0, pos := "ref.go:43", after := #[], guard := none }) (v := ?v4) rfl (by kernel_rfl) (by kernel_rfl) (by kernel_rfl) (fun _ _ _ h => h) (Or.inl ⟨by rfl, ?hy4⟩) (by assumption) ?rest4
      case hy4 => (intro w hSw; (try dsimp only at hSw); obtain ⟨y1, y2, y3, y4, y5, y6⟩ := (show Blk w P #[.string pn, .int .i64 pt, .int .i64 pl, .bool pi, .bool pc] 73 from hSw).five; go_simp <;> with_reducible rfl)
      try simp only [Act.put, List.setIfInBounds_toArray, List.set_cons_zero, List.set_cons_succ]
      refine wpAnyH_take (i := 5) (oi := { dst := some 50, op := Go.Op.load 4 (Go.Operand.tmp 49), type := 4, pos := "ref.go:43", after := #[{ on := 4, ground := Go.Ground.data }], guard := none }) (v := ?v5) rfl (by kernel_rfl) (by kernel_rfl) (by kernel_rfl) (fun _ _ _ h => h) (Or.inl ⟨by rfl, ?hy5⟩) (by assumption) ?rest5
      case hy5 => (intro w hSw; (try dsimp only at hSw); obtain ⟨y1, y2, y3, y4, y5, y6⟩ := (show Blk w P #[.string pn, .int .i64 pt, .int .i64 pl, .bool pi, .bool pc] 73 from hSw).five; go_simp <;> with_reducible rfl)
      try simp only [Act.put, List.setIfInBounds_toArray, List.set_cons_zero, List.set_cons_succ]
      refine wpAnyH_ready (rs := [1]) (by kernel_rfl) (by simp) ?_
      refine AllReadyH.cons (o := { dst := some 46, op := Go.Op.call { callee := Go.Callee.value (Go.Operand.func 39), args := #[Go.Operand.tmp 45], argTypes := #[3] }, type := 2, pos := "ref.go:43", after := #[{ on := 0, ground := Go.Ground.data }], guard := none }) rfl (fun K hK => ?_) AllReadyH.nil
      go_simp
      go_at_call 39; refine (hS.still (hXt.out _)).mono ?_; rintro e w6 ⟨rfl, hS2⟩; clear hS; have hS := hS2; clear hS2; have hB6 := hS.fact.2; have fr := hS.fact.1.1.2; have g1 : w6.cell? ⟨w.heap.size, 0, none⟩ = some (.int .i64 0) := Blk.cell fr 0; have g2 : w6.cell? ⟨w.heap.size, 1, none⟩ = some (.bool false) := Blk.cell fr 1; have g3 : w6.cell? ⟨w.heap.size, 2, none⟩ = some (.bool false) := Blk.cell fr 2; have k1 := Blk.frozen fr 0; have k2 := Blk.frozen fr 1; have k3 := Blk.frozen fr 2; clear fr
      refine hK.out _ _ ?_ (fun hHeld2 => ?_)
      · (try dsimp only); first | exact hB6 | (repeat (first | (with_reducible assumption) | (with_reducible refine Blk.new' ?_; first | rfl | (simp; done) | (simp; omega)) | (with_reducible apply Blk.set01) | (with_reducible apply Blk.set0) | (with_reducible apply Blk.set1) | (with_reducible apply Blk.setOne) | (with_reducible refine Blk.set_other ?_ (by omega) _ _) | (with_reducible apply Blk.alloc) | (with_reducible apply Blk.drew) | (with_reducible refine Blk.below ?_ (by with_reducible assumption))))
      clear hK K hHeld
      have hHeld := hHeld2
      clear hHeld2
      try simp only [Act.put, List.setIfInBounds_toArray, List.set_cons_zero, List.set_cons_succ]
      refine wpAnyH_take (i := 6) (oi := { dst := some 51, op := Go.Op.build 37 #[(0, Go.Operand.tmp 46), (1, Go.Operand.tmp 48), (2, Go.Operand.tmp 50)], type := 37, pos := "ref.go:43", after := #[{ on := 1, ground := Go.Ground.data }, { on := 3, ground := Go.Ground.data }, { on := 5, ground := Go.Ground.data }], guard := none }) (v := ?v6) rfl (by kernel_rfl) (by kernel_rfl) (by kernel_rfl) (fun _ _ _ h => h) (Or.inl ⟨by rfl, ?hy6⟩) (by assumption) ?rest6
      case hy6 => (intro w hSw; (try dsimp only at hSw); obtain ⟨y1, y2, y3, y4, y5, y6⟩ := (show Blk w P #[.string pn, .int .i64 pt, .int .i64 pl, .bool pi, .bool pc] 73 from hSw).five; go_simp <;> with_reducible rfl)
      try simp only [Act.put, List.setIfInBounds_toArray, List.set_cons_zero, List.set_cons_succ]
      refine wpAnyH_ready (rs := [7]) (by kernel_rfl) (by simp) ?_
      refine AllReadyH.cons (o := { dst := none, op := Go.Op.store 37 (Go.Operand.tmp 4) (Go.Operand.tmp 51), type := 0, pos := "ref.go:43", after := #[{ on := 6, ground := Go.Ground.data }, { on := 1, ground := Go.Ground.chain }, { on := 0, ground := Go.Ground.phase }, { on := 1, ground := Go.Ground.phase }, { on := 2, ground := Go.Ground.phase }, { on := 3, ground := Go.Ground.phase }, { on := 4, ground := Go.Ground.phase }, { on := 5, ground := Go.Ground.phase }, { on := 6, ground := Go.Ground.phase }], guard := none }) rfl (fun K hK => ?_) AllReadyH.nil
      go_simp
      refine hK.out _ _ ?_ (fun hHeld2 => ?_)
      · (try dsimp only); first | exact hB6 | (repeat (first | (with_reducible assumption) | (with_reducible refine Blk.new' ?_; first | rfl | (simp; done) | (simp; omega)) | (with_reducible apply Blk.set01) | (with_reducible apply Blk.set0) | (with_reducible apply Blk.set1) | (with_reducible apply Blk.setOne) | (with_reducible refine Blk.set_other ?_ (by omega) _ _) | (with_reducible apply Blk.alloc) | (with_reducible apply Blk.drew) | (with_reducible refine Blk.below ?_ (by with_reducible assumption))))
      clear hK K hHeld
      have hHeld := hHeld2
      clear hHeld2
      try simp only [Act.put, List.setIfInBounds_toArray, List.set_cons_zero, List.set_cons_succ]
      refine wpAnyH_take (i := 8) (oi := { dst := some 5, op := Go.Op.assign (Go.Operand.const (Go.Value.bool true)), type := 4, pos := "ref.go:43", after := #[{ on := 7, ground := Go.Ground.chain }, { on := 0, ground := Go.Ground.phase }, { on := 1, ground := Go.Ground.phase }, { on := 2, ground := Go.Ground.phase }, { on := 3, ground := Go.Ground.phase }, { on := 4, ground := Go.Ground.phase }, { on := 5, ground := Go.Ground.phase }, { on := 6, ground := Go.Ground.phase }, { on := 7, ground := Go.Ground.phase }], guard := none }) (v := ?v7) rfl (by kernel_rfl) (by kernel_rfl) (by kernel_rfl) (fun _ _ _ h => h) (Or.inl ⟨by rfl, ?hy7⟩) (by assumption) ?rest7
      case hy7 => (intro w hSw; (try dsimp only at hSw); obtain ⟨y1, y2, y3, y4, y5, y6⟩ := (show Blk w P #[.string pn, .int .i64 pt, .int .i64 pl, .bool pi, .bool pc] 73 from hSw).five; go_simp <;> with_reducible rfl)
      try simp only [Act.put, List.setIfInBounds_toArray, List.set_cons_zero, List.set_cons_succ]
      refine wpAnyH_done (by kernel_rfl) ?_ _
      refine NoPanic.normal ?_
      go_wp2
      have hs0 := storeR (hS.keep fun O h => h.left.left.right) (by omega) q8 pi pc
      obtain ⟨wz, hwz⟩ : ∃ wz, wz = ((w6.setCell ⟨w.heap.size, 0, none⟩ (.int .i64 q8)).setCell ⟨w.heap.size, 1, none⟩ (.bool pi)).setCell ⟨w.heap.size, 2, none⟩ (.bool pc) := ⟨_, rfl⟩
      rw [← hwz] at hs0 ⊢
      have fr : Blk wz w.heap.size #[.int .i64 q8, .bool pi, .bool pc] 37 := hs0.fact.2
      have c0 : wz.cell? ⟨w.heap.size, 0, none⟩ = some (.int .i64 q8) := Blk.cell fr 0
      have c1 : wz.cell? ⟨w.heap.size, 1, none⟩ = some (.bool pi) := Blk.cell fr 1
      have c2 : wz.cell? ⟨w.heap.size, 2, none⟩ = some (.bool pc) := Blk.cell fr 2
      have hq := hs0.refQ (findR (findA M nm))
      refine bodyPost_ret (v := findR (findA M nm)) ?_ rfl hq
      rw [hfd.out, hpa.out]
      unfold findR
      simp [results, Try.results15, go_sem, c0, c1, c2]
    · have hOf := Lib.hid (fun (w9 : World) => rOf_no n hc w9)
      have hpa : primA n = (0, false, false, false) := if_neg hc
      unfold primV noPrim at hOf
      replace hpa := Lib.hid hpa
      clear hc hlt
      go_upto_region 10 with (first
        | (go_at_call 37; refine (hS.still (hFn.out _)).mono ?_; rintro e w5 ⟨rfl, hS2⟩; clear hS; have hS := hS2; clear hS2)
        | (go_at_call 38; refine (hS.still (hOf.out _)).mono ?_; rintro e w4 ⟨rfl, hS2⟩; clear hS; have hS := hS2; clear hS2))
      have hS2 := hS.alloc (.cells #[.string ⟨#[]⟩, .int .i64 0, .int .i64 0, .bool false, .bool false] 73)
      have fr := hS2.fact.1.2
      have g1 : (w4.alloc (.cells #[.string ⟨#[]⟩, .int .i64 0, .int .i64 0, .bool false, .bool false] 73)).cell? ⟨w.heap.size, 0, none⟩ = some (.int .i64 0) := Blk.cell fr 0
      have g2 : (w4.alloc (.cells #[.string ⟨#[]⟩, .int .i64 0, .int .i64 0, .bool false, .bool false] 73)).cell? ⟨w.heap.size, 1, none⟩ = some (.bool false) := Blk.cell fr 1
      have g3 : (w4.alloc (.cells #[.string ⟨#[]⟩, .int .i64 0, .int .i64 0, .bool false, .bool false] 73)).cell? ⟨w.heap.size, 2, none⟩ = some (.bool false) := Blk.cell fr 2
      have k1 := Blk.frozen fr 0
      have k2 := Blk.frozen fr 1
      have k3 := Blk.frozen fr 2
      clear fr
      go_wp2
      have hs0 := storeR (hS2.keep fun O h => h.left.right) (by omega) 0 false false
      obtain ⟨wz, hwz⟩ : ∃ wz, wz = (((w4.alloc (.cells #[.string ⟨#[]⟩, .int .i64 0, .int .i64 0, .bool false, .bool false] 73)).setCell ⟨w.heap.size, 0, none⟩ (.int .i64 0)).setCell ⟨w.heap.size, 1, none⟩ (.bool false)).setCell ⟨w.heap.size, 2, none⟩ (.bool false) := ⟨_, rfl⟩
      rw [← hwz] at hs0 ⊢
      have fr : Blk wz w.heap.size #[.int .i64 0, .bool false, .bool false] 37 := hs0.fact.2
      have c0 : wz.cell? ⟨w.heap.size, 0, none⟩ = some (.int .i64 0) := Blk.cell fr 0
      have c1 : wz.cell? ⟨w.heap.size, 1, none⟩ = some (.bool false) := Blk.cell fr 1
      have c2 : wz.cell? ⟨w.heap.size, 2, none⟩ = some (.bool false) := Blk.cell fr 2
      have hq := hs0.refQ (findR (findA M nm))
      refine bodyPost_ret (v := findR (findA M nm)) ?_ rfl hq
      rw [hfd.out, hpa.out]
      unfold findR
      simp [results, Try.results15, go_sem, c0, c1, c2]
end Go.Proofs.Ytcfblcgdjhpdaaa

/- 'Kind'. -/
namespace Go.Proofs.Ytcfblcgdjhpdaaa
open Go.RowKit
set_option linter.unusedVariables false
set_option linter.unusedSimpArgs false
attribute [local go_sem] cell_set set_set m_undef

/-- A word's kind. -/
def kindN (n : Int) : Int := if 1 ≤ n ∧ n ≤ 3 then n else 0
def kindL (M : List UInt8) (xt : Int) : Int := if insL M xt then kindN (getM M xt) else 0
theorem kindL_f {M : List UInt8} {a : Int} (h : insL M a = false) : kindL M a = 0 := by unfold kindL; rw [h]; exact if_neg (by decide)
theorem kindN_t {n : Int} (h : 1 ≤ n ∧ n ≤ 3) : kindN n = n := if_pos h
theorem kindN_z {n : Int} (h : ¬ (1 ≤ n ∧ n ≤ 3)) : kindN n = 0 := if_neg h
theorem kindL_n {M : List UInt8} {a n : Int} (h : insL M a = true) (hn : n = getM M a) : kindL M a = kindN n := by unfold kindL; rw [h, ← hn]; exact if_pos rfl
theorem insL_far {M : List UInt8} {a : Int} (h : 8192 < a) : insL M a = false := by
  have : hereL M ≤ 5632 := hereL_le M
  unfold insL
  generalize hereL M = x at *
  rw [decide_eq_false_iff_not]
  omega
set_option maxHeartbeats 1000000 in
theorem kCell {w : World} {B mb : Nat} {M : List UInt8} {O : Nat → Prop} (h : MemP w B mb M O) (hB : B ≤ w.heap.size) (a : Int) (ha : isI a) (ha8 : a ≤ 8192) :
    Calls Try.prog 53 #[.pointer (some ⟨mb, 0, none⟩), .int .i64 a] w fun e w' => MemQ w w' B mb M O (.bool (insL M a)) e := by
  have hS := One.start h hB
  have hH := Lib.hid (fun (w9 : World) (O : Nat → Prop) (h : MemP w9 B mb M O) (hb : B ≤ w9.heap.size) => mHere h hb)
  have hl : 1536 ≤ hereL M ∧ hereL M ≤ 5632 := by unfold hereL; split <;> omega
  have e7 := and7 a ha
  unfold insL
  generalize hereL M = here at *
  unfold isI at ha
  have wh : IntKind.i64.wrap (a + 8) = a + 8 := by rw [IntKind.wrap_i64]; omega
  obtain ⟨r, hr⟩ : ∃ r, r = a % 8 := ⟨_, rfl⟩
  rw [← hr] at e7 ⊢
  obtain ⟨s, hs⟩ : ∃ s, s = a + 8 := ⟨_, rfl⟩
  rw [← hs] at wh ⊢
  rw [hs] at wh
  have ws : IntKind.i64.wrap (a + 8) = s := by rw [hs]; exact wh
  clear h hB hr wh hs
  by_cases g1 : r = 0
  · have t1 : (r == 0) = true := by simp; exact g1
    by_cases g2 : 1536 ≤ a
    · have t2 : ((1536 : Int) ≤ a) = True := by simp; exact g2
      have e : decide (r = 0 ∧ 1536 ≤ a ∧ s ≤ here) = decide (s ≤ here) := by rw [decide_eq_decide]; omega
      rw [e]
      clear g1 g2 e hl ha ha8
      go_enter Try.func53, Try.ntmps53
      go_wp2_with (go_at_call 42; refine (hS.mem (fun O h hb => hH.out _ O h hb)).mono ?_; rintro e w1 ⟨rfl, hS2⟩; clear hS; have hS := hS2; clear hS2)
      go_ret
      exact hS.memQ _
    · have t2 : ((1536 : Int) ≤ a) = False := by simp; omega
      have e : decide (r = 0 ∧ 1536 ≤ a ∧ s ≤ here) = false := by rw [decide_eq_false_iff_not]; omega
      rw [e]
      clear g1 g2 e hl ha ha8
      go_enter Try.func53, Try.ntmps53
      go_wp2
      go_ret
      exact hS.memQ _
  · have t1 : (r == 0) = false := by simp; exact g1
    have e : decide (r = 0 ∧ 1536 ≤ a ∧ s ≤ here) = false := by rw [decide_eq_false_iff_not]; omega
    rw [e]
    clear g1 e hl ha ha8
    go_enter Try.func53, Try.ntmps53
    go_wp2
    go_ret
    exact hS.memQ _
set_option maxHeartbeats 1000000 in
theorem kKind {w : World} {B mb : Nat} {M : List UInt8} {O : Nat → Prop} (h : MemP w B mb M O) (hB : B ≤ w.heap.size) (a : Int) (ha : isI a) :
    Calls Try.prog 25 #[.pointer (some ⟨mb, 0, none⟩), .int .i64 a] w fun e w' => MemQ w w' B mb M O (.int .i64 (kindL M a)) e := by
  have hS := One.start h hB
  by_cases t : 8192 < a
  · have e : kindL M a = 0 := kindL_f (insL_far t)
    rw [e]
    clear e h hB ha
    go_enter Try.func25, Try.ntmps25
    go_wp2
    go_ret
    exact hS.memQ _
  · have hC := Lib.hid (fun (w9 : World) (O : Nat → Prop) (h : MemP w9 B mb M O) (hb : B ≤ w9.heap.size) => kCell h hb a ha (by omega))
    have hG := Lib.hid (fun (w9 : World) (O : Nat → Prop) (h : MemP w9 B mb M O) (hb : B ≤ w9.heap.size) => mGet h hb a ha)
    obtain ⟨i, hi⟩ : ∃ i, i = insL M a := ⟨_, rfl⟩
    obtain ⟨n, hn⟩ : ∃ n, n = getM M a := ⟨_, rfl⟩
    rw [← hi] at hC
    rw [← hn] at hG
    clear h hB ha
    cases i with
    | false =>
      rw [kindL_f hi.symm]
      clear hi hn
      go_enter Try.func25, Try.ntmps25
      go_wp2_with (go_at_call 53; refine (hS.mem (fun O h hb => hC.out _ O h hb)).mono ?_; rintro e w1 ⟨rfl, hS2⟩; clear hS; have hS := hS2; clear hS2)
      go_ret
      exact hS.memQ _
    | true =>
      rw [kindL_n hi.symm hn]
      clear hi hn
      by_cases t1 : 1 ≤ n
      · by_cases t2 : n ≤ 3
        · rw [kindN_t ⟨t1, t2⟩]
          go_enter Try.func25, Try.ntmps25
          go_wp2_with (first
            | (go_at_call 53; refine (hS.mem (fun O h hb => hC.out _ O h hb)).mono ?_; rintro e w1 ⟨rfl, hS2⟩; clear hS; have hS := hS2; clear hS2)
            | (go_at_call 54; refine (hS.mem (fun O h hb => hG.out _ O h hb)).mono ?_; rintro e w2 ⟨rfl, hS2⟩; clear hS; have hS := hS2; clear hS2))
          go_ret
          exact hS.memQ _
        · rw [kindN_z (fun h => t2 h.2)]
          go_enter Try.func25, Try.ntmps25
          go_wp2_with (first
            | (go_at_call 53; refine (hS.mem (fun O h hb => hC.out _ O h hb)).mono ?_; rintro e w1 ⟨rfl, hS2⟩; clear hS; have hS := hS2; clear hS2)
            | (go_at_call 54; refine (hS.mem (fun O h hb => hG.out _ O h hb)).mono ?_; rintro e w2 ⟨rfl, hS2⟩; clear hS; have hS := hS2; clear hS2))
          go_ret
          exact hS.memQ _
      · rw [kindN_z (fun h => t1 h.1)]
        go_enter Try.func25, Try.ntmps25
        go_wp2_with (first
          | (go_at_call 53; refine (hS.mem (fun O h hb => hC.out _ O h hb)).mono ?_; rintro e w1 ⟨rfl, hS2⟩; clear hS; have hS := hS2; clear hS2)
          | (go_at_call 54; refine (hS.mem (fun O h hb => hG.out _ O h hb)).mono ?_; rintro e w2 ⟨rfl, hS2⟩; clear hS; have hS := hS2; clear hS2))
        go_ret
        exact hS.memQ _
set_option maxHeartbeats 1000000 in
theorem rKind {w : World} {B rb : Nat} {M : List UInt8} {R : Nat → Prop} (h : RefP w B rb M R) (a : Int) (ha : isI a) :
    Calls Try.prog 26 #[.pointer (some ⟨rb, 0, none⟩), .int .i64 a] w fun e w' => e = .returned (.int .i64 (kindL M a)) ∧ Below w.heap.size w w' := by
  have hC := Lib.hid (rInside h a ha)
  have hG := Lib.hid (fun (w9 : World) (h9 : RefP w9 B rb M R) => rGet h9 a ha)
  replace h := Lib.hid h
  obtain ⟨i, hi⟩ : ∃ i, i = insL M a := ⟨_, rfl⟩
  obtain ⟨n, hn⟩ : ∃ n, n = getM M a := ⟨_, rfl⟩
  rw [← hi] at hC
  rw [← hn] at hG
  clear ha
  cases i with
  | false =>
    rw [kindL_f hi.symm]
    clear hi hn
    go_enter Try.func26, Try.ntmps26
    go_wp2_with (go_at_call 55; refine hC.out.mono ?_; rintro e w1 ⟨rfl, hb1⟩)
    go_ret
    exact ⟨rfl, hb1⟩
  | true =>
    rw [kindL_n hi.symm hn]
    clear hi hn
    by_cases t1 : n < 1
    · rw [kindN_z (by omega)]
      go_enter Try.func26, Try.ntmps26
      go_wp2_with (first
        | (go_at_call 55; refine hC.out.mono ?_; rintro e w1 ⟨rfl, hb1⟩; have hM1 := Lib.hid (h.out.below hb1); replace hb1 := Lib.hid hb1)
        | (go_at_call 47; refine (hG.out _ hM1.out).mono ?_; rintro e w2 ⟨rfl, hb2⟩; have hb3 := Lib.hid (bel_trans hb1.out hb2); clear hb2))
      go_ret
      exact ⟨rfl, hb3.out⟩
    · by_cases t2 : 3 < n
      · rw [kindN_z (by omega)]
        go_enter Try.func26, Try.ntmps26
        go_wp2_with (first
          | (go_at_call 55; refine hC.out.mono ?_; rintro e w1 ⟨rfl, hb1⟩; have hM1 := Lib.hid (h.out.below hb1); replace hb1 := Lib.hid hb1)
          | (go_at_call 47; refine (hG.out _ hM1.out).mono ?_; rintro e w2 ⟨rfl, hb2⟩; have hb3 := Lib.hid (bel_trans hb1.out hb2); clear hb2))
        go_ret
        exact ⟨rfl, hb3.out⟩
      · rw [kindN_t (by omega)]
        go_enter Try.func26, Try.ntmps26
        go_wp2_with (first
          | (go_at_call 55; refine hC.out.mono ?_; rintro e w1 ⟨rfl, hb1⟩; have hM1 := Lib.hid (h.out.below hb1); replace hb1 := Lib.hid hb1)
          | (go_at_call 47; refine (hG.out _ hM1.out).mono ?_; rintro e w2 ⟨rfl, hb2⟩; have hb3 := Lib.hid (bel_trans hb1.out hb2); clear hb2))
        go_ret
        exact ⟨rfl, hb3.out⟩
end Go.Proofs.Ytcfblcgdjhpdaaa
