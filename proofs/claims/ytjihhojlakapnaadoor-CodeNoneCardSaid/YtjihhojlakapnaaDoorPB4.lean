/- 'Of', 'Xt', 'Number' of both packages. -/
import Derived.Test.YtjihhojlakapnaaDoorK
import Derived.Test.YtjihhojlakapnaaDoorPB3
namespace Go.Proofs.YtjihhojlakapnaaDoor
open Go.RowKit
set_option linter.unusedVariables false
set_option linter.unusedSimpArgs false

def primV (r : Row) : Value := .agg #[.string r.1, .int .i64 r.2.1, .int .i64 r.2.2.1, .bool r.2.2.2.1, .bool r.2.2.2.2]
theorem extract_flat {α β} [Inhabited α] (f : α → List β) (k : Nat) (hf : ∀ x, (f x).length = k) : ∀ (L : List α) (i : Nat), i < L.length → (((L.flatMap f).drop (i * k)).take k) = f (L.getD i default)
  | [], i, h => by simp at h
  | x :: L, 0, h => by simp [hf x]
  | x :: L, i + 1, h => by
    have := extract_flat f k hf L i (by simpa using h)
    rw [List.flatMap_cons, Nat.add_mul, Nat.one_mul, Nat.add_comm, ← hf x, List.drop_append, hf x]
    have e0 : List.drop (k + i * k) (f x) = [] := List.drop_eq_nil_of_le (by rw [hf x]; omega)
    simpa [List.getD_cons_succ, e0] using this
theorem rowL_len : rowL.length = 142 := by kernel_rfl
theorem tabL_len : tabL.length = 141 := by kernel_rfl
theorem index19 (n : Int) (h1 : 0 ≤ n) (h2 : n < 142) (w : World) : (Instr.index 80 (.agg cells19) (.int .i64 n)).run Tryd.prog w = .ok (primV (rowL.getD n.toNat default)) w := by
  show _ = Result.ok (Value.agg (cellsR (rowL.getD n.toNat default)).toArray) w
  have hu : Tryd.prog.underlying 80 = some (.array 142 79) := by kernel_rfl
  have hu2 : Tryd.prog.underlying 79 = some (.struct ((match Tryd.prog.underlying 79 with | some (.struct f) => f | _ => #[]))) := by kernel_rfl
  have hi : (Tryd.prog.info? 79).map (·.size) = some 5 := by kernel_rfl
  obtain ⟨i, hi', hs⟩ := Option.map_eq_some_iff.1 hi
  have e := extract_flat cellsR 5 (fun _ => rfl) rowL n.toNat (by rw [rowL_len]; omega)
  simp [Instr.index, run_underlying hu, asIntOf, h1, h2, part, isAgg, run_underlying hu2, sizeOf, typeInfo, hi', hs]
  rw [cells19]
  have e2 : n.toNat * 5 + 5 - n.toNat * 5 = 5 := by omega
  apply Array.ext'
  rw [Array.toList_extract]
  simp only [List.extract_eq_take_drop, e2]
  simpa using e

attribute [local irreducible] cells19 cells20 rowL tabL
attribute [local go_sem] cell_set set_set
set_option maxRecDepth 100000 in
set_option maxHeartbeats 400000 in
theorem wOf (n : Int) (h1 : 1 ≤ n) (h2 : n ≤ 141) (w : World) : Calls Tryd.prog 24 #[.int .i64 n] w fun e w' => e = .returned (.tuple #[primV (rowL.getD n.toNat default), .bool true]) ∧ Below w.heap.size w w' := by
  have t1 : ¬ n < 1 := by omega
  have t2 : ¬ 141 < n := by omega
  have hI := fun w => index19 n (by omega) (by omega) w
  obtain ⟨r, hr⟩ : ∃ r, r = rowL.getD n.toNat default := ⟨_, rfl⟩
  rw [← hr] at hI ⊢
  clear hr h1 h2
  obtain ⟨nm, tk, ly, nw, on⟩ := r
  unfold primV at *
  go_enter Tryd.func24, Tryd.ntmps24
  go_wp2_with (first
    | (go_at_call 43; refine (rowsC _).mono ?_; rintro e w1 ⟨rfl, hb_w1⟩; obtain ⟨k1, k2, k3, k4, k5, k6, k7, k8, k9, k10, k11⟩ := (show Blk w1 (w.heap.size) #[.string ⟨#[]⟩, .int .i64 0, .int .i64 0, .bool false, .bool false] 56 from (by repeat (first | (with_reducible assumption) | (with_reducible refine Blk.new' ?_; first | rfl | (simp; done) | (simp; omega)) | (with_reducible apply Blk.setFive) | (with_reducible apply Blk.set0) | (with_reducible apply Blk.set1) | (with_reducible apply Blk.setOne) | (with_reducible refine Blk.set_other ?_ (by omega) _ _) | (with_reducible apply Blk.alloc) | (with_reducible apply Blk.drew) | (with_reducible refine Blk.below ?_ (by with_reducible assumption))))).five))
  refine ret_blk (v := .tuple #[.agg #[.string nm, .int .i64 tk, .int .i64 ly, .bool nw, .bool on], .bool true]) w.heap.size #[.string nm, .int .i64 tk, .int .i64 ly, .bool nw, .bool on] 56 ?_ (fun w' h => by obtain ⟨c1, c2, c3, c4, c5, _⟩ := h.five; simp [results, Tryd.results24, go_sem, c1, c2, c3, c4, c5]) rfl ⟨rfl, ?_⟩
  · repeat (first | (with_reducible assumption) | (with_reducible refine Blk.new' ?_; first | rfl | (simp; done) | (simp; omega)) | (with_reducible apply Blk.setFive) | (with_reducible apply Blk.set0) | (with_reducible apply Blk.set1) | (with_reducible apply Blk.setOne) | (with_reducible refine Blk.set_other ?_ (by omega) _ _) | (with_reducible apply Blk.alloc) | (with_reducible apply Blk.drew) | (with_reducible refine Blk.below ?_ (by with_reducible assumption)))
  · repeat (first | (with_reducible exact Below.refl _ _) | (with_reducible assumption) | (with_reducible apply bel_alloc) | (with_reducible apply bel_drew) | (with_reducible refine bel_set ?_ (by first | exact Nat.le_refl _ | (simp; done) | omega | (simp; omega)) _) | (with_reducible refine bel_trans ?_ (by with_reducible assumption)))

def noPrim : Row := (⟨#[]⟩, 0, 0, false, false)
set_option maxRecDepth 100000 in
set_option maxHeartbeats 400000 in
theorem wOf_no (n : Int) (h : ¬ (1 ≤ n ∧ n ≤ 141)) (w : World) : Calls Tryd.prog 24 #[.int .i64 n] w fun e w' => e = .returned (.tuple #[primV noPrim, .bool false]) ∧ Below w.heap.size w w' := by
  unfold primV noPrim
  by_cases t1 : n < 1
  · clear h
    go_enter Tryd.func24, Tryd.ntmps24
    go_wp2
    refine ret_blk (v := .tuple #[.agg #[.string ⟨#[]⟩, .int .i64 0, .int .i64 0, .bool false, .bool false], .bool false]) w.heap.size #[.string ⟨#[]⟩, .int .i64 0, .int .i64 0, .bool false, .bool false] 56 ?_ (fun w' h => by obtain ⟨c1, c2, c3, c4, c5, _⟩ := h.five; simp [results, Tryd.results24, go_sem, c1, c2, c3, c4, c5]) rfl ⟨rfl, ?_⟩
    · repeat (first | (with_reducible assumption) | (with_reducible refine Blk.new' ?_; first | rfl | (simp; done) | (simp; omega)) | (with_reducible apply Blk.setFive) | (with_reducible apply Blk.set0) | (with_reducible apply Blk.set1) | (with_reducible apply Blk.setOne) | (with_reducible refine Blk.set_other ?_ (by omega) _ _) | (with_reducible apply Blk.alloc) | (with_reducible apply Blk.drew) | (with_reducible refine Blk.below ?_ (by with_reducible assumption)))
    · repeat (first | (with_reducible exact Below.refl _ _) | (with_reducible assumption) | (with_reducible apply bel_alloc) | (with_reducible apply bel_drew) | (with_reducible refine bel_set ?_ (by first | exact Nat.le_refl _ | (simp; done) | omega | (simp; omega)) _) | (with_reducible refine bel_trans ?_ (by with_reducible assumption)))
  · have t2 : 141 < n := by omega
    clear h
    go_enter Tryd.func24, Tryd.ntmps24
    go_wp2
    refine ret_blk (v := .tuple #[.agg #[.string ⟨#[]⟩, .int .i64 0, .int .i64 0, .bool false, .bool false], .bool false]) w.heap.size #[.string ⟨#[]⟩, .int .i64 0, .int .i64 0, .bool false, .bool false] 56 ?_ (fun w' h => by obtain ⟨c1, c2, c3, c4, c5, _⟩ := h.five; simp [results, Tryd.results24, go_sem, c1, c2, c3, c4, c5]) rfl ⟨rfl, ?_⟩
    · repeat (first | (with_reducible assumption) | (with_reducible refine Blk.new' ?_; first | rfl | (simp; done) | (simp; omega)) | (with_reducible apply Blk.setFive) | (with_reducible apply Blk.set0) | (with_reducible apply Blk.set1) | (with_reducible apply Blk.setOne) | (with_reducible refine Blk.set_other ?_ (by omega) _ _) | (with_reducible apply Blk.alloc) | (with_reducible apply Blk.drew) | (with_reducible refine Blk.below ?_ (by with_reducible assumption)))
    · repeat (first | (with_reducible exact Below.refl _ _) | (with_reducible assumption) | (with_reducible apply bel_alloc) | (with_reducible apply bel_drew) | (with_reducible refine bel_set ?_ (by first | exact Nat.le_refl _ | (simp; done) | omega | (simp; omega)) _) | (with_reducible refine bel_trans ?_ (by with_reducible assumption)))
theorem tableB (w : World) : Calls Tryd.prog 46 #[] w fun e w' => e = .returned (.slice (some ⟨w.heap.size, 0, none⟩) 141 141) ∧ Below w.heap.size w w' ∧ Blk w' w.heap.size cells20 88 :=
  (tableC w).mono fun e w' ⟨h, h2⟩ => ⟨h, by subst h2; exact ⟨(Below.refl _ _).alloc (Nat.le_refl _) _, Blk.new _ _ _⟩⟩
theorem tab_cells (i : Nat) (hi : i < 141) (j : Nat) (hj : j < 4) : cells20[i * 4 + j]? = (cellsT (tabL.getD i default))[j]? := by
  have e := extract_flat cellsT 4 (fun _ => rfl) tabL i (by rw [tabL_len]; exact hi)
  rw [← e]
  simp [cells20, List.getElem?_take, hj]
def toRow (t : TRow) : Row := (t.1, t.2.1, t.2.2.1, decide (0 < t.2.2.2), t.2.2.2 == 2)
theorem tab_row : tabL.map toRow = rowL.tail := by kernel_rfl
theorem tab_rowL (i : Nat) (hi : i < 141) : toRow (tabL.getD i default) = rowL.getD (i + 1) default := by
  have e : rowL.getD (i + 1) default = rowL.tail.getD i default := by simp [List.getD]
  rw [e, ← tab_row]
  simp [List.getD, List.getElem?_map]
  have : i < tabL.length := by rw [tabL_len]; exact hi
  simp [this]
theorem wXt (n : Int) (w : World) : Calls Tryd.prog 35 #[.int .i64 n] w fun e w' => e = .returned (.int .i64 (if 1 ≤ n ∧ n ≤ 141 then n * 8 else 0)) ∧ Below w.heap.size w w' := by
  by_cases t1 : n < 1
  · rw [if_neg (by omega)]
    go_enter Tryd.func35, Tryd.ntmps35
    go_wp2
    go_ret
    exact ⟨rfl, by repeat (first | (with_reducible exact Below.refl _ _) | (with_reducible assumption) | (with_reducible apply bel_alloc) | (with_reducible apply bel_drew) | (with_reducible refine bel_set ?_ (by first | exact Nat.le_refl _ | (simp; done) | omega | (simp; omega)) _) | (with_reducible refine bel_trans ?_ (by with_reducible assumption)))⟩
  by_cases t2 : 141 < n
  · rw [if_neg (by omega)]
    go_enter Tryd.func35, Tryd.ntmps35
    go_wp2
    go_ret
    exact ⟨rfl, by repeat (first | (with_reducible exact Below.refl _ _) | (with_reducible assumption) | (with_reducible apply bel_alloc) | (with_reducible apply bel_drew) | (with_reducible refine bel_set ?_ (by first | exact Nat.le_refl _ | (simp; done) | omega | (simp; omega)) _) | (with_reducible refine bel_trans ?_ (by with_reducible assumption)))⟩
  · rw [if_pos (by omega)]
    go_enter Tryd.func35, Tryd.ntmps35
    go_wp2
    go_ret
    exact ⟨rfl, by repeat (first | (with_reducible exact Below.refl _ _) | (with_reducible assumption) | (with_reducible apply bel_alloc) | (with_reducible apply bel_drew) | (with_reducible refine bel_set ?_ (by first | exact Nat.le_refl _ | (simp; done) | omega | (simp; omega)) _) | (with_reducible refine bel_trans ?_ (by with_reducible assumption)))⟩
def numF (x : Int) : Int := if x % 8 = 0 ∧ 8 ≤ x ∧ x ≤ 1128 then x / 8 else 0
theorem mask7 (x : Int) (hx : isI x) : bits .and .i64 x 7 = x % 8 := by
  obtain ⟨h1, h2⟩ := hx
  unfold bits
  simp
  have e : IntKind.i64.bits = 64 := rfl
  rw [e]
  have h : ((x % 2 ^ 64).toNat &&& (7 % 2 ^ 64)) = (x % 2 ^ 64).toNat % 8 := Nat.and_two_pow_sub_one_eq_mod _ 3
  rw [h, IntKind.wrap_i64]
  omega
theorem ret_i64 {a b : Int} (h : a = b) : Ending.returned (.int .i64 a) = .returned (.int .i64 b) := by rw [h]
theorem wNumber (x : Int) (hx : isI x) (w : World) : Calls Tryd.prog 23 #[.int .i64 x] w fun e w' => e = .returned (.int .i64 (numF x)) ∧ Below w.heap.size w w' := by
  have hm := mask7 x hx
  obtain ⟨m, hm2⟩ : ∃ m, m = x % 8 := ⟨_, rfl⟩
  rw [← hm2] at hm
  have HF : numF x = if m = 0 ∧ 8 ≤ x ∧ x ≤ 1128 then x / 8 else 0 := by rw [hm2]; rfl
  clear hm2
  rw [HF]
  clear HF
  by_cases t0 : m = 0
  · subst t0
    by_cases t1 : x < 8
    · rw [if_neg (by omega)]
      go_enter Tryd.func23, Tryd.ntmps23
      go_wp2
      go_ret
      exact ⟨rfl, by repeat (first | (with_reducible exact Below.refl _ _) | (with_reducible assumption) | (with_reducible apply bel_alloc) | (with_reducible apply bel_drew) | (with_reducible refine bel_set ?_ (by first | exact Nat.le_refl _ | (simp; done) | omega | (simp; omega)) _) | (with_reducible refine bel_trans ?_ (by with_reducible assumption)))⟩
    by_cases t2 : 1128 < x
    · rw [if_neg (by omega)]
      go_enter Tryd.func23, Tryd.ntmps23
      go_wp2
      go_ret
      exact ⟨rfl, by repeat (first | (with_reducible exact Below.refl _ _) | (with_reducible assumption) | (with_reducible apply bel_alloc) | (with_reducible apply bel_drew) | (with_reducible refine bel_set ?_ (by first | exact Nat.le_refl _ | (simp; done) | omega | (simp; omega)) _) | (with_reducible refine bel_trans ?_ (by with_reducible assumption)))⟩
    · rw [if_pos (by omega)]
      go_enter Tryd.func23, Tryd.ntmps23
      go_wp2
      go_ret
      exact ⟨rfl, by repeat (first | (with_reducible exact Below.refl _ _) | (with_reducible assumption) | (with_reducible apply bel_alloc) | (with_reducible apply bel_drew) | (with_reducible refine bel_set ?_ (by first | exact Nat.le_refl _ | (simp; done) | omega | (simp; omega)) _) | (with_reducible refine bel_trans ?_ (by with_reducible assumption)))⟩
  · rw [if_neg (by omega)]
    have t0' : (m != 0) = true := by simpa using t0
    clear t0
    go_enter Tryd.func23, Tryd.ntmps23
    go_wp2
    go_ret
    exact ⟨rfl, by repeat (first | (with_reducible exact Below.refl _ _) | (with_reducible assumption) | (with_reducible apply bel_alloc) | (with_reducible apply bel_drew) | (with_reducible refine bel_set ?_ (by first | exact Nat.le_refl _ | (simp; done) | omega | (simp; omega)) _) | (with_reducible refine bel_trans ?_ (by with_reducible assumption)))⟩
theorem rNumber (x : Int) (hx : isI x) (w : World) : Calls Tryd.prog 30 #[.int .i64 x] w fun e w' => e = .returned (.int .i64 (numF x)) ∧ Below w.heap.size w w' := by
  have HF : numF x = if x.tmod 8 = 0 ∧ 8 ≤ x ∧ x ≤ 1128 then x / 8 else 0 := by
    unfold numF
    have : x.tmod 8 = 0 ↔ x % 8 = 0 := ⟨fun h => Int.emod_eq_zero_of_dvd (Int.dvd_of_tmod_eq_zero h), fun h => Int.tmod_eq_zero_of_dvd (Int.dvd_of_emod_eq_zero h)⟩
    simp only [this]
  have hq : 8 ≤ x → x.tdiv 8 = x / 8 := fun h => Int.tdiv_eq_ediv_of_nonneg (by omega)
  have hmw : IntKind.i64.wrap (x.tmod 8) = x.tmod 8 := by
    have h : (x.tmod 8).natAbs < 8 := by rw [Int.natAbs_tmod]; exact Nat.mod_lt _ (by decide)
    rw [IntKind.wrap_i64]; omega
  obtain ⟨m, hm2⟩ : ∃ m, m = x.tmod 8 := ⟨_, rfl⟩
  have hm2' := hm2.symm
  rw [← hm2] at hmw HF
  rw [HF]
  clear HF hm2
  by_cases t0 : m = 0
  · subst t0
    by_cases t1 : x < 8
    · rw [if_neg (by omega)]
      clear hq
      go_enter Tryd.func30, Tryd.ntmps30
      go_wp2
      go_ret
      exact ⟨rfl, by repeat (first | (with_reducible exact Below.refl _ _) | (with_reducible assumption) | (with_reducible apply bel_alloc) | (with_reducible apply bel_drew) | (with_reducible refine bel_set ?_ (by first | exact Nat.le_refl _ | (simp; done) | omega | (simp; omega)) _) | (with_reducible refine bel_trans ?_ (by with_reducible assumption)))⟩
    by_cases t2 : 1128 < x
    · rw [if_neg (by omega)]
      clear hq
      go_enter Tryd.func30, Tryd.ntmps30
      go_wp2_with (go_at_call 46; refine (tableB _).mono ?_; rintro e w1 ⟨rfl, hb_w1, hk⟩)
      go_ret
      exact ⟨rfl, by repeat (first | (with_reducible exact Below.refl _ _) | (with_reducible assumption) | (with_reducible apply bel_alloc) | (with_reducible apply bel_drew) | (with_reducible refine bel_set ?_ (by first | exact Nat.le_refl _ | (simp; done) | omega | (simp; omega)) _) | (with_reducible refine bel_trans ?_ (by with_reducible assumption)))⟩
    · rw [if_pos (by omega)]
      have hq' := hq (by omega)
      clear hq
      go_enter Tryd.func30, Tryd.ntmps30
      go_wp2_with (go_at_call 46; refine (tableB _).mono ?_; rintro e w1 ⟨rfl, hb_w1, hk⟩)
      go_ret
      exact ⟨rfl, by repeat (first | (with_reducible exact Below.refl _ _) | (with_reducible assumption) | (with_reducible apply bel_alloc) | (with_reducible apply bel_drew) | (with_reducible refine bel_set ?_ (by first | exact Nat.le_refl _ | (simp; done) | omega | (simp; omega)) _) | (with_reducible refine bel_trans ?_ (by with_reducible assumption)))⟩
  · rw [if_neg (by omega)]
    have t0' : (m != 0) = true := by simpa using t0
    clear t0 hq
    go_enter Tryd.func30, Tryd.ntmps30
    go_wp2
    go_ret
    exact ⟨rfl, by repeat (first | (with_reducible exact Below.refl _ _) | (with_reducible assumption) | (with_reducible apply bel_alloc) | (with_reducible apply bel_drew) | (with_reducible refine bel_set ?_ (by first | exact Nat.le_refl _ | (simp; done) | omega | (simp; omega)) _) | (with_reducible refine bel_trans ?_ (by with_reducible assumption)))⟩
set_option maxRecDepth 100000 in
set_option maxHeartbeats 800000 in
theorem rOf (n : Int) (h1 : 1 ≤ n) (h2 : n ≤ 141) (w : World) : Calls Tryd.prog 31 #[.int .i64 n] w fun e w' => e = .returned (.tuple #[primV (rowL.getD n.toNat default), .bool true]) ∧ Below w.heap.size w w' := by
  have t1 : ¬ n < 1 := by omega
  have t2 : ¬ 141 < n := by omega
  have hr := tab_rowL (n.toNat - 1) (by omega)
  rw [show n.toNat - 1 + 1 = n.toNat by omega] at hr
  obtain ⟨i, hi⟩ : ∃ i : Nat, i = n.toNat - 1 := ⟨_, rfl⟩
  have hn : n = (i : Int) + 1 := by omega
  have hc := fun j hj => tab_cells i (by omega) j hj
  rw [← hi] at hr
  rw [← hr]
  clear hr
  subst hn
  obtain ⟨r, hr⟩ : ∃ r, r = tabL.getD i default := ⟨_, rfl⟩
  rw [← hr] at hc ⊢
  clear hr
  obtain ⟨nm, tk, ly, mk⟩ := r
  have c0 : cells20[i * 4]? = some (.string nm) := hc 0 (by omega)
  have c1 : cells20[i * 4 + 1]? = some (.int .i64 tk) := hc 1 (by omega)
  have c2 : cells20[i * 4 + 2]? = some (.int .i64 ly) := hc 2 (by omega)
  have c3 : cells20[i * 4 + 3]? = some (.int .i64 mk) := hc 3 (by omega)
  have hw : IntKind.i64.wrap ((i : Int) + 1 - 1) = i := by rw [IntKind.wrap_i64]; omega
  clear hc hi
  unfold primV toRow
  go_enter Tryd.func31, Tryd.ntmps31
  go_wp2_with (go_at_call 46; refine (tableB _).mono ?_; rintro e w1 ⟨rfl, hb_w1, hk0⟩; have hk : Blk w1 (w.heap.size + 1) cells20 88 := (by simpa using hk0); clear hk0; obtain ⟨k1, k2, k3, k4, k5, k6, k7, k8, k9, k10, k11⟩ := (show Blk w1 (w.heap.size) #[.string ⟨#[]⟩, .int .i64 0, .int .i64 0, .bool false, .bool false] 56 from (by repeat (first | (with_reducible assumption) | (with_reducible refine Blk.new' ?_; first | rfl | (simp; done) | (simp; omega)) | (with_reducible apply Blk.setFive) | (with_reducible apply Blk.set0) | (with_reducible apply Blk.set1) | (with_reducible apply Blk.setOne) | (with_reducible refine Blk.set_other ?_ (by omega) _ _) | (with_reducible apply Blk.alloc) | (with_reducible apply Blk.drew) | (with_reducible refine Blk.below ?_ (by with_reducible assumption))))).five; have y0 := (hk.cell (i * 4)).trans c0; have y1 := (hk.cell (i * 4 + 1)).trans c1; have y2 := (hk.cell (i * 4 + 2)).trans c2; have y3 := (hk.cell (i * 4 + 3)).trans c3)
  refine ret_blk (v := .tuple #[.agg #[.string nm, .int .i64 tk, .int .i64 ly, .bool (decide (0 < mk)), .bool (mk == 2)], .bool true]) w.heap.size #[.string nm, .int .i64 tk, .int .i64 ly, .bool (decide (0 < mk)), .bool (mk == 2)] 56 ?_ (fun w' h => by obtain ⟨c1, c2, c3, c4, c5, _⟩ := h.five; simp [results, Tryd.results31, go_sem, c1, c2, c3, c4, c5]) rfl ⟨rfl, ?_⟩
  · repeat (first | (with_reducible assumption) | (with_reducible refine Blk.new' ?_; first | rfl | (simp; done) | (simp; omega)) | (with_reducible apply Blk.setFive) | (with_reducible apply Blk.set0) | (with_reducible apply Blk.set1) | (with_reducible apply Blk.setOne) | (with_reducible refine Blk.set_other ?_ (by omega) _ _) | (with_reducible apply Blk.alloc) | (with_reducible apply Blk.drew) | (with_reducible refine Blk.below ?_ (by with_reducible assumption)))
  · repeat (first | (with_reducible exact Below.refl _ _) | (with_reducible assumption) | (with_reducible apply bel_alloc) | (with_reducible apply bel_drew) | (with_reducible refine bel_set ?_ (by first | exact Nat.le_refl _ | (simp; done) | omega | (simp; omega)) _) | (with_reducible refine bel_trans ?_ (by with_reducible assumption)))
set_option maxRecDepth 100000 in
set_option maxHeartbeats 400000 in
theorem rOf_no (n : Int) (h : ¬ (1 ≤ n ∧ n ≤ 141)) (w : World) : Calls Tryd.prog 31 #[.int .i64 n] w fun e w' => e = .returned (.tuple #[primV noPrim, .bool false]) ∧ Below w.heap.size w w' := by
  unfold primV noPrim
  by_cases t1 : n < 1
  · clear h
    go_enter Tryd.func31, Tryd.ntmps31
    go_wp2_with (go_at_call 46; refine (tableB _).mono ?_; rintro e w1 ⟨rfl, hb_w1, hk⟩; obtain ⟨k1, k2, k3, k4, k5, k6, k7, k8, k9, k10, k11⟩ := (show Blk w1 (w.heap.size) #[.string ⟨#[]⟩, .int .i64 0, .int .i64 0, .bool false, .bool false] 56 from (by repeat (first | (with_reducible assumption) | (with_reducible refine Blk.new' ?_; first | rfl | (simp; done) | (simp; omega)) | (with_reducible apply Blk.setFive) | (with_reducible apply Blk.set0) | (with_reducible apply Blk.set1) | (with_reducible apply Blk.setOne) | (with_reducible refine Blk.set_other ?_ (by omega) _ _) | (with_reducible apply Blk.alloc) | (with_reducible apply Blk.drew) | (with_reducible refine Blk.below ?_ (by with_reducible assumption))))).five)
    refine ret_blk (v := .tuple #[.agg #[.string ⟨#[]⟩, .int .i64 0, .int .i64 0, .bool false, .bool false], .bool false]) w.heap.size #[.string ⟨#[]⟩, .int .i64 0, .int .i64 0, .bool false, .bool false] 56 ?_ (fun w' h => by obtain ⟨c1, c2, c3, c4, c5, _⟩ := h.five; simp [results, Tryd.results31, go_sem, c1, c2, c3, c4, c5]) rfl ⟨rfl, ?_⟩
    · repeat (first | (with_reducible assumption) | (with_reducible refine Blk.new' ?_; first | rfl | (simp; done) | (simp; omega)) | (with_reducible apply Blk.setFive) | (with_reducible apply Blk.set0) | (with_reducible apply Blk.set1) | (with_reducible apply Blk.setOne) | (with_reducible refine Blk.set_other ?_ (by omega) _ _) | (with_reducible apply Blk.alloc) | (with_reducible apply Blk.drew) | (with_reducible refine Blk.below ?_ (by with_reducible assumption)))
    · repeat (first | (with_reducible exact Below.refl _ _) | (with_reducible assumption) | (with_reducible apply bel_alloc) | (with_reducible apply bel_drew) | (with_reducible refine bel_set ?_ (by first | exact Nat.le_refl _ | (simp; done) | omega | (simp; omega)) _) | (with_reducible refine bel_trans ?_ (by with_reducible assumption)))
  · have t2 : 141 < n := by omega
    clear h
    go_enter Tryd.func31, Tryd.ntmps31
    go_wp2_with (go_at_call 46; refine (tableB _).mono ?_; rintro e w1 ⟨rfl, hb_w1, hk⟩; obtain ⟨k1, k2, k3, k4, k5, k6, k7, k8, k9, k10, k11⟩ := (show Blk w1 (w.heap.size) #[.string ⟨#[]⟩, .int .i64 0, .int .i64 0, .bool false, .bool false] 56 from (by repeat (first | (with_reducible assumption) | (with_reducible refine Blk.new' ?_; first | rfl | (simp; done) | (simp; omega)) | (with_reducible apply Blk.setFive) | (with_reducible apply Blk.set0) | (with_reducible apply Blk.set1) | (with_reducible apply Blk.setOne) | (with_reducible refine Blk.set_other ?_ (by omega) _ _) | (with_reducible apply Blk.alloc) | (with_reducible apply Blk.drew) | (with_reducible refine Blk.below ?_ (by with_reducible assumption))))).five)
    refine ret_blk (v := .tuple #[.agg #[.string ⟨#[]⟩, .int .i64 0, .int .i64 0, .bool false, .bool false], .bool false]) w.heap.size #[.string ⟨#[]⟩, .int .i64 0, .int .i64 0, .bool false, .bool false] 56 ?_ (fun w' h => by obtain ⟨c1, c2, c3, c4, c5, _⟩ := h.five; simp [results, Tryd.results31, go_sem, c1, c2, c3, c4, c5]) rfl ⟨rfl, ?_⟩
    · repeat (first | (with_reducible assumption) | (with_reducible refine Blk.new' ?_; first | rfl | (simp; done) | (simp; omega)) | (with_reducible apply Blk.setFive) | (with_reducible apply Blk.set0) | (with_reducible apply Blk.set1) | (with_reducible apply Blk.setOne) | (with_reducible refine Blk.set_other ?_ (by omega) _ _) | (with_reducible apply Blk.alloc) | (with_reducible apply Blk.drew) | (with_reducible refine Blk.below ?_ (by with_reducible assumption)))
    · repeat (first | (with_reducible exact Below.refl _ _) | (with_reducible assumption) | (with_reducible apply bel_alloc) | (with_reducible apply bel_drew) | (with_reducible refine bel_set ?_ (by first | exact Nat.le_refl _ | (simp; done) | omega | (simp; omega)) _) | (with_reducible refine bel_trans ?_ (by with_reducible assumption)))
end Go.Proofs.YtjihhojlakapnaaDoor
