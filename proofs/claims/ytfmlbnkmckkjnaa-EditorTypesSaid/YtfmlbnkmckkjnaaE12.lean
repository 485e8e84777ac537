/- 'Edit'. -/
import Derived.Test.YtfmlbnkmckkjnaaE11
namespace Go.Proofs.Ytfmlbnkmckkjnaa
open Go.RowKit
set_option linter.unusedVariables false
set_option linter.unusedSimpArgs false
attribute [local go_sem] cell_set set_set m_undef ba_get field0 field1 field2

/-- A view: its text, where the cursor stands, whether it is done. -/
structure Vw where
  t : List UInt8
  a : Int
  d : Bool
def Vw.val (v : Vw) : Value := vw v.t v.a v.d
def Vw.key (v : Vw) (x : UInt8) : Vw :=
  if v.d then ⟨v.t, clampN v.t v.a, true⟩
  else if x.toNat = 10 ∨ x.toNat = 13 then ⟨v.t, clampN v.t v.a, true⟩
  else ⟨(keyT v.t (clampN v.t v.a) x).1 ++ (keyT v.t (clampN v.t v.a) x).2, (keyT v.t (clampN v.t v.a) x).1.length, false⟩
theorem Vw.key_val (v : Vw) (x : UInt8) : keyV v.t v.a v.d x = (v.key x).val := by
  unfold keyV Vw.key
  split
  · rfl
  · split <;> rfl
def Vw.typed (s : List UInt8) : Vw := ⟨typedL s, (typedL s).length, false⟩
theorem keyT_len (t : List UInt8) (k : Nat) (x : UInt8) (h : t.length ≤ 200) : (keyT t k x).1.length + (keyT t k x).2.length ≤ 200 := by
  unfold keyT
  split
  · split
    · simp only [List.length_append, List.length_take, List.length_drop, List.length_cons, List.length_nil]; omega
    · simp only [List.length_append, List.length_take, List.length_drop, List.length_cons, List.length_nil]; omega
  · have := keyL_len (x.toNat : Int) (t.take k) (t.drop k)
    simp only [List.length_take, List.length_drop] at this
    omega
theorem Vw.key_len (v : Vw) (x : UInt8) (h : v.t.length ≤ 200) : (v.key x).t.length ≤ 200 := by
  unfold Vw.key
  split
  · exact h
  · split
    · exact h
    · have := keyT_len v.t (clampN v.t v.a) x h
      simp only [List.length_append]; exact this
/-- One key: which line of the history is shown, and the view. -/
def editS (H : List (List UInt8)) (p : Nat) (v : Vw) (c : UInt8) : Nat × Vw :=
  if c.toNat = 16 then (if 0 < p then (p - 1, Vw.typed (H.getD (p - 1) [])) else (p, v))
  else if c.toNat = 14 then (if p + 1 < H.length then (p + 1, Vw.typed (H.getD (p + 1) [])) else if p < H.length then (p + 1, ⟨[], 0, false⟩) else (p, v))
  else (p, v.key c)
/-- All keys: the view, and how many were read. -/
def editR (H : List (List UInt8)) : List UInt8 → Nat → Nat → Vw → Vw × Nat
  | [], k, _, v => (v, k)
  | c :: r, k, p, v => if (editS H p v c).2.d then ((editS H p v c).2, k + 1) else editR H r (k + 1) (editS H p v c).1 (editS H p v c).2
def editL (H : List (List UInt8)) (s : List UInt8) : Vw × Nat := editR H s 0 H.length ⟨[], 0, false⟩
theorem add_block (a : Addr) (j : Nat) : (a.add j).block = a.block := by
  unfold Addr.add
  split <;> rfl
/-- A slice of texts. -/
def Hist (w : World) (hv : Value) (H : List (List UInt8)) : Prop :=
  (hv = .slice none 0 0 ∧ H = []) ∨ ∃ a cap, hv = .slice (some a) H.length cap ∧ ∀ j (hj : j < H.length), w.cell? (a.add j) = some (.string ⟨(H[j]).toArray⟩)
theorem Hist.below {w w' : World} {hv : Value} {H : List (List UInt8)} (h : Hist w hv H) (hb : Below w.heap.size w w') : Hist w' hv H := by
  rcases h with h | ⟨a, cap, h1, h3⟩
  · exact .inl h
  · exact .inr ⟨a, cap, h1, fun j hj => (hb.cell (World.block_lt_of_cell? _ _ (h3 j hj))).trans (h3 j hj)⟩
theorem Hist.form {w : World} {hv : Value} {H : List (List UInt8)} (h : Hist w hv H) : ∃ a cap, hv = .slice a H.length cap := by
  rcases h with ⟨rfl, rfl⟩ | ⟨a, cap, h1, _⟩
  · exact ⟨_, _, rfl⟩
  · exact ⟨_, _, h1⟩
/-- What 'Edit' gives. -/
def EditP (w w' : World) (p : Vw × Nat) (e : Ending) : Prop := e = .returned (.tuple #[.agg #[.string ⟨p.1.t.toArray⟩, .int .i64 p.1.a, .bool p.1.d], .int .i64 (p.2 : Int)]) ∧ Below w.heap.size w w'

theorem editR_next {H : List (List UInt8)} {c : UInt8} {r : List UInt8} {k p p' : Nat} {v v' : Vw} (h : editS H p v c = (p', v')) (hd : v'.d = false) : editR H (c :: r) k p v = editR H r (k + 1) p' v' := by
  rw [editR, h, if_neg (by simp [hd])]
theorem editR_done {H : List (List UInt8)} {c : UInt8} {r : List UInt8} {k p p' : Nat} {v v' : Vw} (h : editS H p v c = (p', v')) (hd : v'.d = true) : editR H (c :: r) k p v = (v', k + 1) := by
  rw [editR, h, if_pos (by simp [hd])]
theorem vw_val (t : List UInt8) (a : Int) (d : Bool) : vw t a d = .agg #[.string ⟨t.toArray⟩, .int .i64 a, .bool d] := rfl
theorem wTypedA (w : World) (s : List UInt8) (hs : s.length ≤ 9223372036854775807) :
    Calls Try.prog 22 #[.string ⟨s.toArray⟩] w fun e w' => e = .returned (.agg #[.string ⟨(Vw.typed s).t.toArray⟩, .int .i64 (Vw.typed s).a, .bool false]) ∧ Below w.heap.size w w' := wTyped w s hs
theorem wKeyA (w : World) (v : Vw) (hvd : v.d = false) (x : UInt8) (ht : v.t.length ≤ 4000) (V : Vw) (hV : v.key x = V) :
    Calls Try.prog 9 #[.agg #[.string ⟨v.t.toArray⟩, .int .i64 v.a, .bool false], .int .u8 (x.toNat : Int)] w fun e w' => e = .returned (.agg #[.string ⟨V.t.toArray⟩, .int .i64 V.a, .bool V.d]) ∧ Below w.heap.size w w' := by
  subst hV
  have h := wKeyF w v.t v.a v.d x ht
  rw [Vw.key_val, hvd] at h
  exact h
set_option maxHeartbeats 2000000 in
theorem wEdit (w : World) (hv : Value) (H : List (List UInt8)) (s : List UInt8) (hs : s.length ≤ 4611686018427387904) (hH : Hist w hv H) (hn : H.length ≤ 4611686018427387904) (hHs : ∀ x ∈ H, x.length ≤ 9223372036854775807) :
    Calls Try.prog 12 #[hv, .string ⟨s.toArray⟩] w fun e w' => EditP w w' (editL H s) e := by
  obtain ⟨a0, cap0, rfl⟩ := hH.form
  have hH2 := Lib.hid hH
  clear hH
  go_enter Try.func12, Try.ntmps12
  go_wp2
  go_loopw [7, 15] (fun q i wr => ∃ (j p : Nat) (v : Vw), j ≤ s.length ∧ p ≤ H.length ∧ q = .int .i64 (p : Int) ∧ i = .int .i64 (j : Int) ∧ v.t.length ≤ 200 ∧ v.d = false ∧ editR H (s.drop j) j p v = editL H s ∧ Blk wr w.heap.size #[.string ⟨#[]⟩, .int .i64 0, .bool false] 23 ∧ Blk wr (w.heap.size + 1) #[.string ⟨v.t.toArray⟩, .int .i64 v.a, .bool false] 23 ∧ Below w.heap.size w wr) (fun q i _ => (s.length - (intOf i).toNat))
  case atStart =>
    exact ⟨0, H.length, ⟨[], 0, false⟩, by omega, by omega, rfl, rfl, by simp, rfl, rfl, (Blk.new _ _ _).alloc _, Blk.new' (by simp), by repeat (first | (with_reducible exact Below.refl _ _) | (with_reducible assumption) | (with_reducible apply bel_alloc) | (with_reducible apply bel_drew) | (with_reducible refine bel_set ?_ (by first | exact Nat.le_refl _ | (simp; done) | omega | (simp; omega)) _) | (with_reducible refine bel_trans ?_ (by with_reducible assumption)))⟩
  case round =>
    obtain ⟨j, p, v, hj, hp, rfl, rfl, hv2, hvd, hR, hB1, hB2, hbel⟩ := hrel
    by_cases hjl : j < s.length
    · obtain ⟨c, hc⟩ : ∃ c, s[j] = c := ⟨_, rfl⟩
      rw [List.drop_eq_getElem_cons hjl, hc] at hR
      have t1 : ((j : Int) < (s.length : Int)) = True := by simp; omega
      have w1 : IntKind.i64.wrap ((j : Int) + 1) = ((j + 1 : Nat) : Int) := by rw [IntKind.wrap_i64]; omega
      obtain ⟨q, hq⟩ : ∃ q : Int, q = (p : Int) := ⟨_, rfl⟩
      rw [← hq]
      obtain ⟨x, hx⟩ : ∃ x : Int, x = (c.toNat : Int) := ⟨_, rfl⟩
      have hx' := Lib.hid hx
      clear hx
      have hq0 := hq
      clear hq
      go_upto_region 7 with fail
      rw [← hx'.out]
      have hq' := Lib.hid hq0
      clear hq0
      replace hR := Lib.hid hR
      obtain ⟨d1, d2, d3, g1, g2, g3, l2⟩ := hB2.three
      by_cases h16 : c.toNat = 16
      ·
        have b16 : (x == 16) = true := by rw [hx'.out]; simp; omega
        have b14 : (x == 14) = false := by rw [hx'.out]; simp; omega
        by_cases hp0 : 0 < p
        ·
          have tg : ((0 : Int) < q) = True := by rw [hq'.out]; simp; omega
          have hpn : p - 1 < H.length := by omega
          obtain ⟨q1, hq1⟩ : ∃ q1 : Int, q1 = ((p - 1 : Nat) : Int) := ⟨_, rfl⟩
          have w2 : IntKind.i64.wrap (q - 1) = q1 := by rw [IntKind.wrap_i64]; have := hq'.out; omega
          obtain ⟨y, hy⟩ : ∃ y, H[p - 1] = y := ⟨_, rfl⟩
          have hyl : y.length ≤ 9223372036854775807 := hHs y (by rw [← hy]; exact List.getElem_mem _)
          have hyD : H.getD (p - 1) [] = y := by rw [List.getD_eq_getElem?_getD, List.getElem?_eq_getElem hpn, ← hy]; rfl
          obtain ⟨aa, cp, he, hcell⟩ : ∃ a cap, (Value.slice a0 H.length cap0) = .slice (some a) H.length cap ∧ ∀ j (hj : j < H.length), w.cell? (a.add j) = some (.string ⟨(H[j]).toArray⟩) := by
            rcases hH2.out with ⟨_, h0⟩ | h
            · rw [h0] at hpn; exact absurd hpn (Nat.not_lt_zero _)
            · exact h
          cases he
          have hcl := hcell (p - 1) hpn
          rw [hy, ← hbel.cell (World.block_lt_of_cell? _ _ hcl)] at hcl
          have i1 : ((0 : Int) ≤ q1) = True := by simp; omega
          have i2 : (q1 < (H.length : Int)) = True := by simp; omega
          obtain ⟨pi, hpi⟩ : ∃ pi : Nat, pi = p - 1 := ⟨_, rfl⟩
          rw [← hpi] at hcl
          have i3 : q1.toNat = pi := by omega
          clear hpi
          replace hq1 := Lib.hid hq1
          have hty := Lib.hid (wTypedA wr y (by omega))
          clear hcell hy
          go_upto_region 9 with fail
          clear w2
          generalize hVt : Vw.typed y = V at hty
          go_upto_region 18 with (go_at_call 22; refine hty.out.mono ?_; rintro e w5 ⟨rfl, hb5⟩; replace hB1 := hB1.below hb5; replace hB2 := hB2.below hb5; obtain ⟨d1, d2, d3, g1, g2, g3, l2⟩ := hB2.three)
          have hB3 : Blk (((w5.setCell ⟨w.heap.size + 1, 0, none⟩ (.string ⟨V.t.toArray⟩)).setCell ⟨w.heap.size + 1, 1, none⟩ (.int .i64 V.a)).setCell ⟨w.heap.size + 1, 2, none⟩ (.bool false)) (w.heap.size + 1) #[.string ⟨V.t.toArray⟩, .int .i64 V.a, .bool false] 23 := by simpa using ((hB2.set 0 (.string ⟨V.t.toArray⟩)).set 1 (.int .i64 V.a)).set 2 (.bool false)
          have hB4 := ((hB1.set_other (b' := w.heap.size + 1) (by omega) 0 (.string ⟨V.t.toArray⟩)).set_other (b' := w.heap.size + 1) (by omega) 1 (.int .i64 V.a)).set_other (b' := w.heap.size + 1) (by omega) 2 (.bool false)
          have hbel5 := bel_set (bel_set (bel_set (bel_trans hbel hb5) (b := w.heap.size + 1) (by omega) (o := 0) (.string ⟨V.t.toArray⟩)) (b := w.heap.size + 1) (by omega) (o := 1) (.int .i64 V.a)) (b := w.heap.size + 1) (by omega) (o := 2) (.bool false)
          clear hB1 hB2 hbel hb5 d1 d2 d3 g1 g2 g3 l2
          generalize ((w5.setCell ⟨w.heap.size + 1, 0, none⟩ (.string ⟨V.t.toArray⟩)).setCell ⟨w.heap.size + 1, 1, none⟩ (.int .i64 V.a)).setCell ⟨w.heap.size + 1, 2, none⟩ (.bool false) = w6 at *
          obtain ⟨d1, d2, d3, g1, g2, g3, l2⟩ := hB3.three
          go_wp2
          go_roundw
          case rel => exact ⟨j + 1, p - 1, V, by omega, by omega, by rw [hq1.out], rfl, by rw [← hVt]; exact typedL_len y, by rw [← hVt]; rfl, (editR_next (by unfold editS; rw [if_pos h16, if_pos hp0]; rw [hyD, hVt]) (by rw [← hVt]; rfl)).symm.trans hR.out, hB4, hB3, hbel5⟩
          case measure => simp [intOf]; omega
        ·
          have tg : ((0 : Int) < q) = False := by rw [hq'.out]; simp; omega
          have n16 : (x != 16) = false := by rw [hx'.out]; simp; omega
          have n14 : (x != 14) = true := by rw [hx'.out]; simp; omega
          replace hB1 := Lib.hid hB1
          replace hbel := Lib.hid hbel
          replace hB2 := Lib.hid hB2
          go_wp2
          go_roundw
          case rel => exact ⟨j + 1, p, v, by omega, hp, by rw [hq'.out], rfl, hv2, hvd, (editR_next (by unfold editS; rw [if_pos h16, if_neg hp0]) hvd).symm.trans hR.out, hB1.out, hB2.out, hbel.out⟩
          case measure => simp [intOf]; omega
      ·
        by_cases h14 : c.toNat = 14
        ·
          have b16 : (x == 16) = false := by rw [hx'.out]; simp; omega
          have b14 : (x == 14) = true := by rw [hx'.out]; simp; omega
          obtain ⟨qs, hqs⟩ : ∃ qs : Int, qs = ((p + 1 : Nat) : Int) := ⟨_, rfl⟩
          have w3 : IntKind.i64.wrap (q + 1) = qs := by rw [IntKind.wrap_i64]; have := hq'.out; omega
          by_cases hp1 : p + 1 < H.length
          ·
            have tl : (qs < (H.length : Int)) = True := by simp; omega
            replace hqs := Lib.hid hqs
            have hpn : p + 1 < H.length := by omega
            obtain ⟨q1, hq1⟩ : ∃ q1 : Int, q1 = ((p + 1 : Nat) : Int) := ⟨_, rfl⟩
            have w2 : qs = q1 := by have := hqs.out; omega
            rw [w2] at w3 tl
            obtain ⟨y, hy⟩ : ∃ y, H[p + 1] = y := ⟨_, rfl⟩
            have hyl : y.length ≤ 9223372036854775807 := hHs y (by rw [← hy]; exact List.getElem_mem _)
            have hyD : H.getD (p + 1) [] = y := by rw [List.getD_eq_getElem?_getD, List.getElem?_eq_getElem hpn, ← hy]; rfl
            obtain ⟨aa, cp, he, hcell⟩ : ∃ a cap, (Value.slice a0 H.length cap0) = .slice (some a) H.length cap ∧ ∀ j (hj : j < H.length), w.cell? (a.add j) = some (.string ⟨(H[j]).toArray⟩) := by
              rcases hH2.out with ⟨_, h0⟩ | h
              · rw [h0] at hpn; exact absurd hpn (Nat.not_lt_zero _)
              · exact h
            cases he
            have hcl := hcell (p + 1) hpn
            rw [hy, ← hbel.cell (World.block_lt_of_cell? _ _ hcl)] at hcl
            have i1 : ((0 : Int) ≤ q1) = True := by simp; omega
            have i2 : (q1 < (H.length : Int)) = True := by simp; omega
            obtain ⟨pi, hpi⟩ : ∃ pi : Nat, pi = p + 1 := ⟨_, rfl⟩
            rw [← hpi] at hcl
            have i3 : q1.toNat = pi := by omega
            clear hpi
            replace hq1 := Lib.hid hq1
            have hty := Lib.hid (wTypedA wr y (by omega))
            clear hcell hy
            go_upto_region 12 with fail
            generalize hVt : Vw.typed y = V at hty
            go_upto_region 18 with (go_at_call 22; refine hty.out.mono ?_; rintro e w5 ⟨rfl, hb5⟩; replace hB1 := hB1.below hb5; replace hB2 := hB2.below hb5; obtain ⟨d1, d2, d3, g1, g2, g3, l2⟩ := hB2.three)
            have hB3 : Blk (((w5.setCell ⟨w.heap.size + 1, 0, none⟩ (.string ⟨V.t.toArray⟩)).setCell ⟨w.heap.size + 1, 1, none⟩ (.int .i64 V.a)).setCell ⟨w.heap.size + 1, 2, none⟩ (.bool false)) (w.heap.size + 1) #[.string ⟨V.t.toArray⟩, .int .i64 V.a, .bool false] 23 := by simpa using ((hB2.set 0 (.string ⟨V.t.toArray⟩)).set 1 (.int .i64 V.a)).set 2 (.bool false)
            have hB4 := ((hB1.set_other (b' := w.heap.size + 1) (by omega) 0 (.string ⟨V.t.toArray⟩)).set_other (b' := w.heap.size + 1) (by omega) 1 (.int .i64 V.a)).set_other (b' := w.heap.size + 1) (by omega) 2 (.bool false)
            have hbel5 := bel_set (bel_set (bel_set (bel_trans hbel hb5) (b := w.heap.size + 1) (by omega) (o := 0) (.string ⟨V.t.toArray⟩)) (b := w.heap.size + 1) (by omega) (o := 1) (.int .i64 V.a)) (b := w.heap.size + 1) (by omega) (o := 2) (.bool false)
            clear hB1 hB2 hbel hb5 d1 d2 d3 g1 g2 g3 l2
            generalize ((w5.setCell ⟨w.heap.size + 1, 0, none⟩ (.string ⟨V.t.toArray⟩)).setCell ⟨w.heap.size + 1, 1, none⟩ (.int .i64 V.a)).setCell ⟨w.heap.size + 1, 2, none⟩ (.bool false) = w6 at *
            obtain ⟨d1, d2, d3, g1, g2, g3, l2⟩ := hB3.three
            go_wp2
            go_roundw
            case rel => exact ⟨j + 1, p + 1, V, by omega, by omega, by rw [hq1.out], rfl, by rw [← hVt]; exact typedL_len y, by rw [← hVt]; rfl, (editR_next (by unfold editS; rw [if_neg h16, if_pos h14, if_pos hp1]; rw [hyD, hVt]) (by rw [← hVt]; rfl)).symm.trans hR.out, hB4, hB3, hbel5⟩
            case measure => simp [intOf]; omega
          ·
            have tl : (qs < (H.length : Int)) = False := by simp; omega
            by_cases hp2 : p < H.length
            ·
              have tq : (q < (H.length : Int)) = True := by rw [hq'.out]; simp; omega
              replace hqs := Lib.hid hqs
              have n16 : (x != 16) = true := by rw [hx'.out]; simp; omega
              have n14 : (x != 14) = false := by rw [hx'.out]; simp; omega
              have hB3 : Blk (((wr.setCell ⟨w.heap.size + 1, 0, none⟩ (.string ⟨#[]⟩)).setCell ⟨w.heap.size + 1, 1, none⟩ (.int .i64 0)).setCell ⟨w.heap.size + 1, 2, none⟩ (.bool false)) (w.heap.size + 1) #[.string ⟨#[]⟩, .int .i64 0, .bool false] 23 := by simpa using ((hB2.set 0 (.string ⟨#[]⟩)).set 1 (.int .i64 0)).set 2 (.bool false)
              have hB4 := ((hB1.set_other (b' := w.heap.size + 1) (by omega) 0 (.string ⟨#[]⟩)).set_other (b' := w.heap.size + 1) (by omega) 1 (.int .i64 0)).set_other (b' := w.heap.size + 1) (by omega) 2 (.bool false)
              have hbel5 := bel_set (bel_set (bel_set hbel (b := w.heap.size + 1) (by omega) (o := 0) (.string ⟨#[]⟩)) (b := w.heap.size + 1) (by omega) (o := 1) (.int .i64 0)) (b := w.heap.size + 1) (by omega) (o := 2) (.bool false)
              go_upto_region 18 with fail
              clear hB1 hB2 hbel d1 d2 d3 g1 g2 g3 l2
              generalize ((wr.setCell ⟨w.heap.size + 1, 0, none⟩ (.string ⟨#[]⟩)).setCell ⟨w.heap.size + 1, 1, none⟩ (.int .i64 0)).setCell ⟨w.heap.size + 1, 2, none⟩ (.bool false) = w6 at *
              obtain ⟨d1, d2, d3, g1, g2, g3, l2⟩ := hB3.three
              go_wp2
              go_roundw
              case rel => exact ⟨j + 1, p + 1, ⟨[], 0, false⟩, by omega, by omega, by rw [hqs.out], rfl, by simp, rfl, (editR_next (by unfold editS; rw [if_neg h16, if_pos h14, if_neg hp1, if_pos hp2]) rfl).symm.trans hR.out, hB4, hB3, hbel5⟩
              case measure => simp [intOf]; omega
            ·
              have tq : (q < (H.length : Int)) = False := by rw [hq'.out]; simp; omega
              replace hqs := Lib.hid hqs
              have n16 : (x != 16) = true := by rw [hx'.out]; simp; omega
              have n14 : (x != 14) = false := by rw [hx'.out]; simp; omega
              replace hB1 := Lib.hid hB1
              replace hbel := Lib.hid hbel
              replace hB2 := Lib.hid hB2
              go_wp2
              go_roundw
              case rel => exact ⟨j + 1, p, v, by omega, hp, by rw [hq'.out], rfl, hv2, hvd, (editR_next (by unfold editS; rw [if_neg h16, if_pos h14, if_neg hp1, if_neg hp2]) hvd).symm.trans hR.out, hB1.out, hB2.out, hbel.out⟩
              case measure => simp [intOf]; omega
        ·
          have b16 : (x == 16) = false := by rw [hx'.out]; simp; omega
          have b14 : (x == 14) = false := by rw [hx'.out]; simp; omega
          have n16 : (x != 16) = true := by rw [hx'.out]; simp; omega
          have n14 : (x != 14) = true := by rw [hx'.out]; simp; omega
          obtain ⟨V, hV⟩ : ∃ V, v.key c = V := ⟨_, rfl⟩
          have hk := Lib.hid (wKeyA wr v hvd c (by omega) V hV)
          have hVl := Vw.key_len v c hv2
          rw [hV] at hVl
          replace hV := Lib.hid hV
          rw [← hx'.out] at hk
          go_upto_region 18 with (go_at_call 9; refine hk.out.mono ?_; rintro e w5 ⟨rfl, hb5⟩; replace hB1 := hB1.below hb5; replace hB2 := hB2.below hb5; clear d1 d2 d3 g1 g2 g3 l2; obtain ⟨d1, d2, d3, g1, g2, g3, l2⟩ := hB2.three)
          have hB3 : Blk (((w5.setCell ⟨w.heap.size + 1, 0, none⟩ (.string ⟨V.t.toArray⟩)).setCell ⟨w.heap.size + 1, 1, none⟩ (.int .i64 V.a)).setCell ⟨w.heap.size + 1, 2, none⟩ (.bool V.d)) (w.heap.size + 1) #[.string ⟨V.t.toArray⟩, .int .i64 V.a, .bool V.d] 23 := by simpa using ((hB2.set 0 (.string ⟨V.t.toArray⟩)).set 1 (.int .i64 V.a)).set 2 (.bool V.d)
          have hB4 := ((hB1.set_other (b' := w.heap.size + 1) (by omega) 0 (.string ⟨V.t.toArray⟩)).set_other (b' := w.heap.size + 1) (by omega) 1 (.int .i64 V.a)).set_other (b' := w.heap.size + 1) (by omega) 2 (.bool V.d)
          have hbel5 := bel_set (bel_set (bel_set (bel_trans hbel hb5) (b := w.heap.size + 1) (by omega) (o := 0) (.string ⟨V.t.toArray⟩)) (b := w.heap.size + 1) (by omega) (o := 1) (.int .i64 V.a)) (b := w.heap.size + 1) (by omega) (o := 2) (.bool V.d)
          clear hB1 hB2 hbel hb5 d1 d2 d3 g1 g2 g3 l2 hk
          generalize ((w5.setCell ⟨w.heap.size + 1, 0, none⟩ (.string ⟨V.t.toArray⟩)).setCell ⟨w.heap.size + 1, 1, none⟩ (.int .i64 V.a)).setCell ⟨w.heap.size + 1, 2, none⟩ (.bool V.d) = w6 at *
          obtain ⟨d1, d2, d3, g1, g2, g3, l2⟩ := hB3.three
          cases hVd : V.d
          ·
            rw [hVd] at d3 hB3
            have hVd2 := Lib.hid hVd
            clear hVd
            replace hB3 := Lib.hid hB3
            replace hB4 := Lib.hid hB4
            replace hbel5 := Lib.hid hbel5
            go_wp2
            go_roundw
            case rel => exact ⟨j + 1, p, V, by omega, hp, by rw [hq'.out], rfl, hVl, hVd2.out, (editR_next (by unfold editS; rw [if_neg h16, if_neg h14, hV.out]) hVd2.out).symm.trans hR.out, hB4.out, hB3.out, hbel5.out⟩
            case measure => simp [intOf]; omega
          ·
            rw [hVd] at d3 hB3
            have hE : editL H s = (V, j + 1) := by rw [← hR.out]; exact editR_done (p' := p) (by unfold editS; rw [if_neg h16, if_neg h14, hV.out]) hVd
            replace hE := Lib.hid hE
            have hVd2 := Lib.hid hVd
            clear hVd
            obtain ⟨c1, c2, c3, f1, f2, f3, l1⟩ := hB4.three
            replace hbel5 := Lib.hid hbel5
            replace hB3 := Lib.hid hB3
            replace hB4 := Lib.hid hB4
            go_wp2
            refine ret_blk (v := .tuple #[.agg #[.string ⟨V.t.toArray⟩, .int .i64 V.a, .bool true], .int .i64 ((j + 1 : Nat) : Int)]) w.heap.size #[.string ⟨V.t.toArray⟩, .int .i64 V.a, .bool true] 23 (by simpa using ((hB4.out.set 0 (.string ⟨V.t.toArray⟩)).set 1 (.int .i64 V.a)).set 2 (.bool true)) (fun w' h => by obtain ⟨c1, c2, c3, _⟩ := h.three; simp [results, Try.results12, go_sem, c1, c2, c3]) rfl ?_
            show EditP w _ (editL H s) _
            rw [hE.out]
            refine ⟨by rw [hVd2.out], ?_⟩
            have hbel := hbel5.out
            repeat (first | (with_reducible exact Below.refl _ _) | (with_reducible assumption) | (with_reducible apply bel_alloc) | (with_reducible apply bel_drew) | (with_reducible refine bel_set ?_ (by first | exact Nat.le_refl _ | (simp; done) | omega | (simp; omega)) _) | (with_reducible refine bel_trans ?_ (by with_reducible assumption)))
    ·
      have hjs : j = s.length := by omega
      subst hjs
      rw [List.drop_length] at hR
      have hE : editL H s = (v, s.length) := by rw [← hR]; rfl
      have t1 : ((s.length : Int) < (s.length : Int)) = False := by simp
      replace hE := Lib.hid hE
      clear hR
      obtain ⟨c1, c2, c3, f1, f2, f3, l1⟩ := hB1.three
      obtain ⟨d1, d2, d3, g1, g2, g3, l2⟩ := hB2.three
      have hvd2 := Lib.hid hvd
      clear hvd hj
      replace hbel := Lib.hid hbel
      replace hB1 := Lib.hid hB1
      replace hB2 := Lib.hid hB2
      go_wp2
      refine ret_blk (v := .tuple #[.agg #[.string ⟨v.t.toArray⟩, .int .i64 v.a, .bool false], .int .i64 (s.length : Int)]) w.heap.size #[.string ⟨v.t.toArray⟩, .int .i64 v.a, .bool false] 23 (by simpa using ((hB1.out.set 0 (.string ⟨v.t.toArray⟩)).set 1 (.int .i64 v.a)).set 2 (.bool false)) (fun w' h => by obtain ⟨c1, c2, c3, _⟩ := h.three; simp [results, Try.results12, go_sem, c1, c2, c3]) rfl ?_
      show EditP w _ (editL H s) _
      rw [hE.out]
      refine ⟨by rw [hvd2.out], ?_⟩
      have hbel := hbel.out
      repeat (first | (with_reducible exact Below.refl _ _) | (with_reducible assumption) | (with_reducible apply bel_alloc) | (with_reducible apply bel_drew) | (with_reducible refine bel_set ?_ (by first | exact Nat.le_refl _ | (simp; done) | omega | (simp; omega)) _) | (with_reducible refine bel_trans ?_ (by with_reducible assumption)))
end Go.Proofs.Ytfmlbnkmckkjnaa

