/- 'other'. -/
import Derived.Test.YtjihhojlakapnaaDoorC3
import Derived.Test.YtjihhojlakapnaaDoorD2
import Derived.Test.YtjihhojlakapnaaDoorCL
namespace Go.Proofs.YtjihhojlakapnaaDoor
open Go.RowKit Go.Shelf
set_option linter.unusedVariables false
set_option linter.unusedSimpArgs false
attribute [local go_sem] Oper.semAt_some cell_set set_set m_undef

/-- The listed table, kept. -/
def PW : Kp := ⟨fun k => k = 0, Pow10, fun w1 w2 h hs hp => by
  have hc := hp
  simp only [Pow10, Lib.TabIs, World.var?, gTab, Option.bind_some] at hc ⊢
  have hl : 0 < w1.heap.size := by
    cases e : w1.heap[0]? with
    | none => rw [e] at hc; cases hc
    | some o => exact (Array.getElem?_eq_some_iff.1 e).1
  rw [h 0 rfl hl]
  exact hc⟩
def pickO {α β : Type} (o : Option α) (f : α → β) (d : β) : β := match o with
  | some x => f x
  | none => d
theorem pick_some {α β : Type} {l : List α} {p : α → Bool} {f : α → β} {d : β} {x : α} (h : l.find? p = some x) : pickO (l.find? p) f d = f x := by rw [h]; rfl
theorem pick_none {α β : Type} {l : List α} {p : α → Bool} {f : α → β} {d : β} (h : ∀ y ∈ l, p y = false) : pickO (l.find? p) f d = d := by
  rw [List.find?_eq_none.2 (fun y hy => by rw [h y hy]; simp)]; rfl
theorem find_first {α : Type} {l : List α} {p : α → Bool} {k : Nat} {x : α} (hx : l[k]? = some x) (h0 : ∀ y ∈ l.take k, p y = false) (h1 : p x = true) : l.find? p = some x := by
  induction l generalizing k with
  | nil => simp at hx
  | cons y l ih =>
    cases k with
    | zero => simp at hx; subst hx; simp [h1]
    | succ k =>
      have := h0 y (by simp)
      rw [List.find?_cons, this]
      exact ih (by simpa using hx) (fun z hz => h0 z (by simp [hz]))
def itoaS (n : Int) : ByteArray := ⟨(Lib.itoa n).toArray⟩
/-- How what is no primitive is shown. -/
def othS (M : List UInt8) (xt : Int) : ByteArray := pickO ((wordsL M).find? (fun x => rdXt M x == xt)) (fun x => ⟨(nameL M x).toArray⟩) (itoaS xt)
theorem oth_at {M : List UInt8} {xt : Int} {k : Nat} {x : Int} (hx : (wordsL M)[k]? = some x) (h0 : ∀ y ∈ (wordsL M).take k, (rdXt M y == xt) = false) (h1 : (rdXt M x == xt) = true) : othS M xt = ⟨(nameL M x).toArray⟩ := pick_some (find_first hx h0 h1)
theorem oth_no {M : List UInt8} {xt : Int} (h0 : ∀ y ∈ wordsL M, (rdXt M y == xt) = false) : othS M xt = itoaS xt := pick_none h0
/-- The cells of 'other'. -/
def FO (r mb : Nat) (xt : Int) (s : ByteArray) : Kp := ((PW.and (.blk r #[.int .i64 xt] 2)).and (.blk (r + 1) #[.string s] 9)).and (.blk (r + 2) #[.pointer (some ⟨mb, 0, none⟩)] 24)
theorem FO.lt {r mb : Nat} {xt : Int} {s : ByteArray} (h0 : 0 < r) {j : Nat} (hj : (FO r mb xt s).S j) : j < r + 3 := by
  rcases hj with ((hj | hj) | hj) | hj
  · have : j = 0 := hj
    omega
  · have : j = r := hj
    omega
  · have : j = r + 1 := hj
    omega
  · have : j = r + 2 := hj
    omega
theorem FO.store {base mb r : Nat} {M : List UInt8} {T : World → Kp → Prop} {w : World} {K : Kp} {xt : Int} {s : ByteArray} (S : StM base mb M T) (h : T w ((FO r mb xt s).and K)) (hr : base ≤ r) (h2 : ¬ K.S (r + 1)) (s' : ByteArray) :
    T (w.setCell ⟨r + 1, 0, none⟩ (.string s')) ((FO r mb xt s').and K) := by
  have a1 : T w (((((PW.and (.blk r #[.int .i64 xt] 2)).and (.blk (r + 2) #[.pointer (some ⟨mb, 0, none⟩)] 24)).and K)).and (.blk (r + 1) #[.string s] 9)) :=
    S.keep h fun O h => ((h.left.left.left.and h.left.right).and h.right).and h.left.left.right
  have hn : ¬ ((((PW.and (.blk r #[.int .i64 xt] 2)).and (.blk (r + 2) #[.pointer (some ⟨mb, 0, none⟩)] 24)).and K)).S (r + 1) := fun hj => by
    rcases hj with ((hj | hj) | hj) | hj
    · have : r + 1 = 0 := hj
      omega
    · have : r + 1 = r := hj
      omega
    · have : r + 1 = r + 2 := hj
      omega
    · exact h2 hj
  have a2 := S.set a1 (by omega) hn 0 (.string s')
  exact S.keep a2 fun O h => ((h.left.left.left.and h.right).and h.left.left.right).and h.left.right
attribute [local irreducible] wordsL latestL rdOk rdV linkL nameL immL hidL rdXt loadL hereL othS itoaS
set_option maxRecDepth 100000 in
set_option maxHeartbeats 2000000 in
theorem kOther {w : World} {B mb : Nat} {M : List UInt8} {O : Nat → Prop} (h : MemP w B mb M O) (hB : B ≤ w.heap.size) (hk : Keep w O PW) (xt : Int) (hxt : isI xt) :
    Calls Tryd.prog 25 #[.pointer (some ⟨mb, 0, none⟩), .int .i64 xt] w fun e w' => MemQ w w' B mb M O (.string (othS M xt)) e := by
  have hS := One.startK h hB hk
  have hw0 : 0 < w.heap.size := (hk.2 0 rfl).1
  clear h hB hk
  refine (callsIn_wide (n := 3)).1 ?_
  refine callsIn_of_wp_marks Tryd.func25 rfl trivial ?_ rfl
  simp only [Tryd.ntmps25, List.size_toArray, List.length_cons, List.length_nil, Nat.reduceAdd, Nat.reduceSub, Array.replicate_succ, Array.replicate_zero, List.push_toArray, List.append_toArray, List.nil_append, List.cons_append]
  gi_wp2
  refine ⟨trivial, ?_⟩
  have hS2 := ((hS.new #[.int .i64 xt] 2).new #[.string ⟨#[]⟩] 9).new #[.pointer (some ⟨mb, 0, none⟩)] 24
  simp only [World.size_alloc] at hS2
  gi_at_call 44
  refine (callsIn_wide.2 (wWords _ mb)).mono ?_
  rintro e w2 ⟨rfl, hw2⟩
  simp only [World.size_alloc] at hw2 hS2 ⊢
  rw [← hw2] at hS2
  have hs2 : w2.heap.size = w.heap.size + 3 := by rw [hw2]; simp
  clear hw2 hS
  gi_wp2
  refine wpIn_rangeFunc_T (α := Int) (β := Nat) rfl (by omega) (gf := 57) (lb := #[.pointer (some ⟨w.heap.size + 2, 0, none⟩)]) rfl trivial (enters_of Tryd.func57 (by kernel_rfl) rfl) (T := fun w' K => One w w' B mb M O K) One.st (words_in (3 - 1) (by omega) One.st (w.heap.size + 2)) (fun _ => rfl)
    (fun k => (FO w.heap.size mb xt ⟨#[]⟩).and (.pure (∀ y ∈ (wordsL M).take k, (rdXt M y == xt) = false)))
    (fun k j hj => by
      rcases hj with hj | hj
      · have := FO.lt hw0 hj
        omega
      · exact hj.elim)
    (fun K L h => h.and) (fun k w hw => hw.1.2)
    (fun c k => (FO w.heap.size mb xt ⟨(nameL M ((wordsL M).getD k 0)).toArray⟩).and (.pure (c = .ret ∧ othS M xt = ⟨(nameL M ((wordsL M).getD k 0)).toArray⟩)))
    (fun c k j hj => by
      rcases hj with hj | hj
      · have := FO.lt hw0 hj
        omega
      · exact hj.elim)
    (hS2.keep fun O h => h.and (Keep.pure (fun y hy => by simp at hy)))
    (fun x y => { tmps := #[.pointer (some ⟨mb, 0, none⟩), .int .i64 xt, undef, .pointer (some ⟨w.heap.size, 0, none⟩), .pointer (some ⟨w.heap.size + 1, 0, none⟩), .pointer (some ⟨y, 0, none⟩), .pointer (some ⟨mb, 0, none⟩), .func (.func 57) #[] #[.pointer (some ⟨w.heap.size + 2, 0, none⟩)], rdV M x, undef, undef, undef, undef, undef, undef, undef, undef], defers := [] })
    (fun k x y => ((FO w.heap.size mb xt ⟨#[]⟩).and (.pure (∀ y ∈ (wordsL M).take k, (rdXt M y == xt) = false))).and (.blk y #[.int .i64 x, .int .i64 (linkL M x), .string ⟨(nameL M x).toArray⟩, .bool (immL M x), .bool (hidL M x), .int .i64 (rdXt M x)] 65))
    ?assign ?body ?done ?stop
  case assign =>
    intro l k x K W hx hK hs hT
    have hV := rdV_ok (wordsL_ok hx)
    have hN := One.new hT #[.int .i64 x, .int .i64 (linkL M x), .string ⟨(nameL M x).toArray⟩, .bool (immL M x), .bool (hidL M x), .int .i64 (rdXt M x)] 65
    rw [hV]
    generalize rdXt M x = X at *
    generalize linkL M x = Y at *
    generalize immL M x = I at *
    generalize hidL M x = D at *
    generalize (⟨(nameL M x).toArray⟩ : ByteArray) = H at *
    have hN' := Lib.hid hN
    clear hN hV hT
    gi_wp2
    exact ⟨W.heap.size, rfl, fun j hj => by
      rcases hj with (hj | hj) | hj
      · have := FO.lt hw0 hj
        omega
      · exact hj.elim
      · have : j = W.heap.size := hj
        omega, hN'.out.keep fun O h => (h.left.left.and h.right).and h.left.right⟩
  case body =>
    intro l k x y K W hx hK hT
    have hV := rdV_ok (wordsL_ok hx)
    have hgd : (wordsL M).getD k 0 = x := by rw [List.getD, hx]; rfl
    simp only [hgd]
    rw [hV]
    have hat := @oth_at M xt k x hx
    obtain ⟨⟨hFO, hpre⟩, hbl⟩ := (One.fact hT).1
    obtain ⟨⟨⟨b0, b1⟩, b2⟩, b3⟩ := hFO
    have hnx := take_next hx
    have hfx : rdXt M x = rdXt M x := rfl
    obtain ⟨X, hX⟩ : ∃ X, X = rdXt M x := ⟨_, rfl⟩
    rw [← hX] at hbl hat hV
    have hpre' := Lib.hid hpre
    obtain ⟨y1, y2, y3, y4, y5, y6⟩ := (show Blk W y _ _ from hbl).c6
    have g1 : W.cell? ⟨w.heap.size, 0, none⟩ = some (.int .i64 xt) := (show Blk W w.heap.size _ _ from b1).cell 0
    have g2 : W.cell? ⟨w.heap.size + 1, 0, none⟩ = some (.string ⟨#[]⟩) := (show Blk W (w.heap.size + 1) _ _ from b2).cell 0
    have g3 : W.frozen? ⟨w.heap.size + 1, 0, none⟩ = false := (show Blk W (w.heap.size + 1) _ _ from b2).frozen 0
    have hat' := Lib.hid hat
    have hX' := Lib.hid hX
    have hnx' := Lib.hid hnx
    have hT' := Lib.hid hT
    rw [← hX]
    clear hV hat hpre hT hbl b0 b1 b2 b3 hX hnx hfx hx hgd
    generalize linkL M x = Y at *
    generalize immL M x = I at *
    generalize hidL M x = D at *
    generalize (⟨(nameL M x).toArray⟩ : ByteArray) = H at *
    cases hq : (X == xt) with
    | true =>
      have hF : othS M xt = H := hat'.out hpre'.out hq
      replace hF := Lib.hid hF
      gi_wp2
      exact One.keep (FO.store One.st (One.keep hT'.out fun O h => h.left.left.left.and ((Keep.pure (p := Code.ret = Code.ret ∧ othS M xt = H) ⟨rfl, hF.out⟩).and h.right)) (by omega) (fun hj => by rcases hj with hj | hj; exact hj; have := hK _ hj; omega) H) fun O h => (h.left.and h.right.left).and h.right.right
    | false =>
      have hq' := Lib.hid hq
      gi_wp2
      exact One.keep hT'.out fun O h => ((h.left.left.left.and (Keep.pure (fun z hz => by rw [hnx'.out] at hz; rcases List.mem_append.1 hz with hz | hz; exact hpre'.out z hz; rw [List.mem_singleton.1 hz, ← hX'.out]; exact hq'.out))).and h.right)
  case stop =>
    intro D c k x W hx hD hT
    have hgd : (wordsL M).getD k 0 = x := by rw [List.getD, hx]; rfl
    rw [hgd] at hT
    obtain ⟨⟨hFO, rfl, hF1⟩, hDk⟩ := One.fact hT
    have hF := Lib.hid hF1
    clear hF1
    have hT2 := One.st.putObj hT (show w.heap.size ≤ D by omega) (fun hj => by
      rcases hj with hj | hj
      · have := FO.lt hw0 hj
        omega
      · exact hj) (.deferred none)
    obtain ⟨⟨⟨b0, b1⟩, b2⟩, b3⟩ := (One.fact hT2).1.1
    have c0 : (W.putObj D (.deferred none)).cell? ⟨w.heap.size + 1, 0, none⟩ = some (.string ⟨(nameL M x).toArray⟩) := Blk.cell b2 0
    gi_wp2
    refine ⟨by simp, .inl ⟨_, _, rfl, run_takeDeferred hDk, ?_⟩⟩
    refine ⟨.string (othS M xt), ?_, hT2.memQ _⟩
    rw [hF.out]
    simp [results, Tryd.results25, go_sem, c0]
  case done =>
    intro D W hD hT
    obtain ⟨⟨hFO, hno⟩, hDk⟩ := One.fact hT
    rw [List.take_length] at hno
    have hfd := Lib.hid (oth_no hno)
    have hsS := Lib.hid (show itoaS xt = ⟨(Lib.itoa xt).toArray⟩ by unfold itoaS; rfl)
    obtain ⟨⟨⟨b0, b1⟩, b2⟩, b3⟩ := hFO
    have hPow : Pow10 W := b0
    have hFm := Lib.hid (fmt_int xt hxt W hPow)
    have g1 : W.cell? ⟨w.heap.size, 0, none⟩ = some (.int .i64 xt) := (show Blk W w.heap.size _ _ from b1).cell 0
    clear hno b0 b1 b2 b3 hPow
    have hD3 : ¬ (FO w.heap.size mb xt ⟨#[]⟩).S D := fun hj => by
      have := FO.lt hw0 hj
      omega
    gi_wp2
    refine ⟨trivial, ?_⟩
    gi_at_call 13
    refine (callsIn_wide.2 (One.still hT hFm.out)).mono ?_
    rintro e w3 ⟨rfl, hT3⟩
    rw [← hsS.out]
    clear hT hDk g1
    have hT4 := One.keep hT3 (L := (FO w.heap.size mb xt ⟨#[]⟩).and (.obj D (.deferred (some [])))) fun O h => h.left.left.and h.right
    obtain ⟨⟨⟨⟨b0, b1⟩, b2⟩, b3⟩, hDk⟩ := One.fact hT4
    have g2 : w3.cell? ⟨w.heap.size + 1, 0, none⟩ = some (.string ⟨#[]⟩) := (show Blk w3 (w.heap.size + 1) _ _ from b2).cell 0
    have g3 : w3.frozen? ⟨w.heap.size + 1, 0, none⟩ = false := (show Blk w3 (w.heap.size + 1) _ _ from b2).frozen 0
    clear b0 b1 b2 b3 hDk hT3
    have hs0 := FO.store One.st hT4 (Nat.le_refl _) (fun hj => by
      have : w.heap.size + 1 = D := hj
      omega) (itoaS xt)
    gi_wp2
    obtain ⟨wz, hwz⟩ : ∃ wz, wz = w3.setCell ⟨w.heap.size + 1, 0, none⟩ (.string (itoaS xt)) := ⟨_, rfl⟩
    rw [← hwz] at hs0 ⊢
    have hDk : wz.heap[D]? = some (.deferred (some [])) := (One.fact hs0).2
    have hs2 := One.st.putObj hs0 (show w.heap.size ≤ D by omega) (fun hj => by
      have := FO.lt hw0 hj
      omega) (.deferred none)
    obtain ⟨⟨⟨b0, b1⟩, b2⟩, b3⟩ := (One.fact hs2).1
    have c0 : (wz.putObj D (.deferred none)).cell? ⟨w.heap.size + 1, 0, none⟩ = some (.string (itoaS xt)) := Blk.cell b2 0
    refine ⟨by simp, .inl ⟨_, _, rfl, run_takeDeferred hDk, ?_⟩⟩
    refine ⟨.string (othS M xt), ?_, hs2.memQ _⟩
    rw [hfd.out]
    simp [results, Tryd.results25, go_sem, c0]
end Go.Proofs.YtjihhojlakapnaaDoor
