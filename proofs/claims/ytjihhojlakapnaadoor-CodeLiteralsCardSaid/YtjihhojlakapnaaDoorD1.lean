/- 'dict.Words': the iterator. -/
import Derived.Test.YtjihhojlakapnaaDoorRF
import Derived.Test.YtjihhojlakapnaaDoorH8
namespace Go.Proofs.YtjihhojlakapnaaDoor
open Go.RowKit Go.Shelf
set_option linter.unusedVariables false
set_option linter.unusedSimpArgs false
attribute [local go_sem] Oper.semAt_some cell_set set_set m_undef

def linkL (M : List UInt8) (a : Int) : Int := cellL (loadL M a 40) 0
def nameL (M : List UInt8) (a : Int) : List UInt8 := ((loadL M a 40).drop 9).take (rdN M a)
def immL (M : List UInt8) (a : Int) : Bool := decide (128 ≤ rdB M a)
def hidL (M : List UInt8) (a : Int) : Bool := decide (rdB M a / 64 % 2 = 1)
theorem rdV_ok {M : List UInt8} {a : Int} (h : rdOk M a = true) : rdV M a = .agg #[.int .i64 a, .int .i64 (linkL M a), .string ⟨(nameL M a).toArray⟩, .bool (immL M a), .bool (hidL M a), .int .i64 (rdXt M a)] := by
  unfold rdV; rw [h]; rfl
theorem rdOk_lo {M : List UInt8} {a : Int} (h : rdOk M a = true) : 1536 ≤ a ∧ a < 5632 := by
  have := hereL_le M
  unfold rdOk at h
  have h2 := of_decide_eq_true h
  omega
theorem linkL_isI (M : List UInt8) (a : Int) : isI (linkL M a) := by unfold linkL cellL isI; rw [IntKind.wrap_i64]; omega
/-- The words from 'at' on, below 'last'. -/
def wordsW (M : List UInt8) (last at_ : Int) : List Int := if h : rdOk M at_ = true ∧ at_ < last then at_ :: wordsW M at_ (linkL M at_) else []
termination_by last.toNat
decreasing_by have := rdOk_lo h.1; omega
theorem wordsW_yes {M : List UInt8} {last at_ : Int} (h1 : rdOk M at_ = true) (h2 : at_ < last) : wordsW M last at_ = at_ :: wordsW M at_ (linkL M at_) := by
  rw [wordsW]; exact dif_pos ⟨h1, h2⟩
theorem wordsW_no {M : List UInt8} {last at_ : Int} (h : ¬ (rdOk M at_ = true ∧ at_ < last)) : wordsW M last at_ = [] := by
  rw [wordsW]; exact dif_neg h
/-- The words of the memory M: their headers' places. -/
def wordsL (M : List UInt8) : List Int := wordsW M 8192 (latestL M)
theorem latestL_isI (M : List UInt8) : isI (latestL M) := by
  unfold latestL
  split
  · exact getM_isI M 8
  · unfold isI; omega
theorem wordsW_ok {M : List UInt8} : ∀ (n : Nat) (last at_ : Int), last.toNat ≤ n → ∀ x ∈ wordsW M last at_, rdOk M x = true := by
  intro n
  induction n with
  | zero =>
    intro last at_ hn x hx
    rw [wordsW_no (fun h => by have := rdOk_lo h.1; omega)] at hx
    cases hx
  | succ n ih =>
    intro last at_ hn x hx
    by_cases h : rdOk M at_ = true ∧ at_ < last
    · rw [wordsW_yes h.1 h.2] at hx
      rcases List.mem_cons.1 hx with rfl | hx
      · exact h.1
      · exact ih _ _ (by have := rdOk_lo h.1; omega) x hx
    · rw [wordsW_no h] at hx; cases hx
theorem wordsL_ok {M : List UInt8} {k : Nat} {x : Int} (h : (wordsL M)[k]? = some x) : rdOk M x = true := wordsW_ok _ _ _ (Nat.le_refl _) x (List.mem_of_getElem? h)
theorem drop_cons {α : Type} {l : List α} {k : Nat} {x : α} {r : List α} (h : l.drop k = x :: r) : l[k]? = some x ∧ l.drop (k + 1) = r := by
  have h1 : (l.drop k)[0]? = some x := by rw [h]; rfl
  rw [List.getElem?_drop] at h1
  refine ⟨h1, ?_⟩
  rw [← List.tail_drop, h]; rfl

theorem wWords (w : World) (mb : Nat) : Calls Tryd.prog 44 #[.pointer (some ⟨mb, 0, none⟩)] w fun e w' => e = .returned (.func (.func 57) #[] #[.pointer (some ⟨w.heap.size, 0, none⟩)]) ∧ w' = w.alloc (.cells #[.pointer (some ⟨mb, 0, none⟩)] 24) := by
  go_enter Tryd.func44, Tryd.ntmps44
  go_wp2
  go_ret
  exact ⟨rfl, rfl⟩
/-- The captured memory. -/
def CapM (bx mb : Nat) (K : Kp) : Prop := ∀ w, K.P w → Blk w bx #[.pointer (some ⟨mb, 0, none⟩)] 24
theorem CapM.and {bx mb : Nat} {K L : Kp} (h : CapM bx mb K) : CapM bx mb (K.and L) := fun w hw => h w hw.1

attribute [local irreducible] wordsL latestL rdOk rdV linkL nameL immL hidL rdXt loadL hereL
set_option maxRecDepth 100000 in
set_option maxHeartbeats 1000000 in
theorem words_in (n : Nat) (hn : 1 ≤ n) {base mb : Nat} {M : List UInt8} {T : World → Kp → Prop} (S : StM base mb M T) (bx : Nat) :
    SeqT Fence.wide n 57 #[.pointer (some ⟨bx, 0, none⟩)] (fun a => #[rdV M a]) (wordsL M) T (CapM bx mb) := fun l J Jx W hQ h0 hY => by
  have hLt := Lib.hid (fun (w : World) (K : Kp) (h : T w K) => S.mem h (fun B O h hb => mLatest h hb))
  have hRd := Lib.hid (fun (w : World) (K : Kp) (h : T w K) (a : Int) (ha : isI a) => S.mem h (fun B O h hb => mRead h hb a ha))
  have hx0 : (wordsL M).drop 0 = wordsW M 8192 (latestL M) := by unfold wordsL; exact List.drop_zero
  have ha0 := latestL_isI M
  generalize wordsL M = xs at *
  generalize latestL M = a0 at *
  have hY' := Lib.hid hY
  have cb : W.cell? ⟨bx, 0, none⟩ = some (.pointer (some ⟨mb, 0, none⟩)) := (hQ 0 W (S.fact h0)).cell 0
  have h0' := Lib.hid h0
  have hz0 := Lib.hid hx0
  clear hY h0 hx0
  refine callsIn_of_wp Tryd.func57 rfl trivial ?_ rfl
  simp only [Tryd.ntmps57, List.size_toArray, List.length_cons, List.length_nil, Nat.reduceAdd, Nat.reduceSub, Array.replicate_succ, Array.replicate_zero, List.push_toArray, List.append_toArray, List.nil_append, List.cons_append]
  apply wideScope
  gi_wp2_with (refine ⟨trivial, ?_⟩; gi_at_call 58; refine (callsIn_wide.2 (hLt.out _ _ h0'.out)).mono ?_; rintro e w1 ⟨rfl, hT1, hs1⟩)
  refine wpIn_label ?_
  gi_wp2
  gi_loopw [3, 4] (fun p q wr => ∃ (k : Nat) (la at_ : Int), p = .int .i64 la ∧ q = .int .i64 at_ ∧ k ≤ xs.length ∧ xs.drop k = wordsW M la at_ ∧ isI at_ ∧ isI la ∧ W.heap.size ≤ wr.heap.size ∧ T wr (J k)) (fun p q wr => (intOf p).toNat)
  case atStart =>
    exact ⟨0, 8192, a0, rfl, rfl, Nat.zero_le _, hz0.out, ha0, by unfold isI; omega, hs1, hT1⟩
  case round =>
    obtain ⟨k, la, at_, rfl, rfl, hk, hdr, hIa, hIl, hsz, hTr⟩ := hrel
    have cb : wr.cell? ⟨bx, 0, none⟩ = some (.pointer (some ⟨mb, 0, none⟩)) := (hQ k wr (S.fact hTr)).cell 0
    obtain ⟨A, K, H, I, D, X, hV, -⟩ := rdV_form M at_
    have hR := hRd.out wr (J k) hTr at_ hIa
    rw [hV] at hR
    by_cases hc : rdOk M at_ = true ∧ at_ < la
    · obtain ⟨h1, h2⟩ := hc
      rw [wordsW_yes h1 h2] at hdr
      obtain ⟨hx, hdr2⟩ := drop_cons hdr
      have hlo := rdOk_lo h1
      have hAK : K = linkL M at_ := by rw [rdV_ok h1] at hV; injection hV with hV; simp at hV; exact hV.2.1.symm
      have hIK : isI K := by rw [hAK]; exact linkL_isI M at_
      have hYk := fun L W1 => hY'.out k at_ L W1 hx
      rw [hV] at hYk
      rw [← hAK] at hdr2
      rw [h1] at hR
      have hk1 : k + 1 ≤ xs.length := by have := (List.getElem?_eq_some_iff.1 hx).1; omega
      have t1 : ¬ la ≤ at_ := by omega
      have hR' := Lib.hid hR
      have hYk' := Lib.hid hYk
      have hd2 := Lib.hid hdr2
      have hx' := Lib.hid hx
      clear hdr hdr2 hR hYk hAK hV h1 hx
      gi_wp2
      refine ⟨trivial, ?_⟩
      gi_at_call 59
      refine (callsIn_wide.2 hR'.out).mono ?_
      rintro e w2 ⟨rfl, hT2, hs2⟩
      have hT3 := S.new hT2 #[.int .i64 A, .int .i64 K, .string H, .bool I, .bool D, .int .i64 X] 65
      have hge2 : W.heap.size ≤ w2.heap.size := by omega
      obtain ⟨fn, tmps, assign, body, hy, hRo⟩ := hYk'.out _ _ (fun j hj => by cases hj; exact hge2) hT3
      gi_wp2
      refine hRo.mono ?_
      rintro e W3 (⟨rfl, hT4⟩ | ⟨rfl, hJx3⟩)
      · have hsl := S.slt hT4 (.inr rfl)
        have hb4 := (S.fact hT4).2
        have hc1 : W3.cell? ⟨w2.heap.size, 1, none⟩ = some (.int .i64 K) := Blk.cell hb4 1
        gi_wp2
        refine wpIn_wide.2 ?_
        replace hT4 := S.drew hT4
        have hS : Blk W3.drew w2.heap.size #[.int .i64 A, .int .i64 K, .string H, .bool I, .bool D, .int .i64 X] 65 := hb4
        have hsd : W.heap.size ≤ W3.drew.heap.size := Nat.le_trans hge2 (Nat.le_of_lt hsl)
        clear hy hRo hT3 hT2 hYk' hR' hTr hc1
        refine wp_region_noPanic ?_
        refine wp_region_held_drew (S := (fun w' => Blk w' w2.heap.size #[.int .i64 A, .int .i64 K, .string H, .bool I, .bool D, .int .i64 X] 65)) (by kernel_rfl) ?_ (fun hHeld => ?_)
        · (try dsimp only); exact hS
        refine wpAnyH_take (i := 0) (oi := { dst := some 28, op := Go.Op.move (Go.Operand.tmp 4), type := 2, pos := "dict.go:24", after := #[], guard := none }) (v := ?v1) rfl (by kernel_rfl) (by kernel_rfl) (by kernel_rfl) (fun _ _ _ h => h) (Or.inl ⟨by rfl, ?hy1⟩) (by assumption) ?rest1
        case hy1 => (intro w hSw; (try dsimp only at hSw); have y2 : w.cell? ⟨w2.heap.size, 1, none⟩ = some (.int .i64 K) := Blk.cell hSw 1; go_simp <;> with_reducible rfl)
        try simp only [Act.put, List.setIfInBounds_toArray, List.set_cons_zero, List.set_cons_succ]
        refine wpAnyH_take (i := 1) (oi := { dst := some 29, op := Go.Op.fieldAddr 65 (Go.Operand.tmp 5) 1, type := 0, pos := "dict.go:24", after := #[{ on := 3, ground := Go.Ground.gcOnly Go.Departure.lateStores }], guard := none }) (v := ?v2) rfl (by kernel_rfl) (by kernel_rfl) (by kernel_rfl) (fun _ _ _ h => h) (Or.inl ⟨by rfl, ?hy2⟩) (by assumption) ?rest2
        case hy2 => (intro w hSw; (try dsimp only at hSw); have y2 : w.cell? ⟨w2.heap.size, 1, none⟩ = some (.int .i64 K) := Blk.cell hSw 1; go_simp <;> with_reducible rfl)
        try simp only [Act.put, List.setIfInBounds_toArray, List.set_cons_zero, List.set_cons_succ]
        refine wpAnyH_take (i := 2) (oi := { dst := some 30, op := Go.Op.load 2 (Go.Operand.tmp 29), type := 2, pos := "dict.go:24", after := #[{ on := 1, ground := Go.Ground.data }, { on := 3, ground := Go.Ground.gcOnly Go.Departure.lateStores }], guard := none }) (v := ?v3) rfl (by kernel_rfl) (by kernel_rfl) (by kernel_rfl) (fun _ _ _ h => h) (Or.inl ⟨by rfl, ?hy3⟩) (by assumption) ?rest3
        case hy3 => (intro w hSw; (try dsimp only at hSw); have y2 : w.cell? ⟨w2.heap.size, 1, none⟩ = some (.int .i64 K) := Blk.cell hSw 1; go_simp <;> with_reducible rfl)
        try simp only [Act.put, List.setIfInBounds_toArray, List.set_cons_zero, List.set_cons_succ]
        refine wpAnyH_take (i := 3) (oi := { dst := some 3, op := Go.Op.assign (Go.Operand.tmp 28), type := 2, pos := "dict.go:24", after := #[{ on := 0, ground := Go.Ground.data }, { on := 0, ground := Go.Ground.phase }, { on := 1, ground := Go.Ground.textOnly Go.Departure.lateStores }, { on := 2, ground := Go.Ground.textOnly Go.Departure.lateStores }], guard := none }) (v := ?v4) rfl (by kernel_rfl) (by kernel_rfl) (by kernel_rfl) (fun _ _ _ h => h) (Or.inl ⟨by rfl, ?hy4⟩) (by assumption) ?rest4
        case hy4 => (intro w hSw; (try dsimp only at hSw); have y2 : w.cell? ⟨w2.heap.size, 1, none⟩ = some (.int .i64 K) := Blk.cell hSw 1; go_simp <;> with_reducible rfl)
        try simp only [Act.put, List.setIfInBounds_toArray, List.set_cons_zero, List.set_cons_succ]
        refine wpAnyH_take (i := 4) (oi := { dst := some 4, op := Go.Op.assign (Go.Operand.tmp 30), type := 2, pos := "dict.go:24", after := #[{ on := 2, ground := Go.Ground.data }, { on := 3, ground := Go.Ground.chain }, { on := 0, ground := Go.Ground.phase }, { on := 1, ground := Go.Ground.phase }, { on := 2, ground := Go.Ground.phase }, { on := 3, ground := Go.Ground.phase }], guard := none }) (v := ?v5) rfl (by kernel_rfl) (by kernel_rfl) (by kernel_rfl) (fun _ _ _ h => h) (Or.inl ⟨by rfl, ?hy5⟩) (by assumption) ?rest5
        case hy5 => (intro w hSw; (try dsimp only at hSw); have y2 : w.cell? ⟨w2.heap.size, 1, none⟩ = some (.int .i64 K) := Blk.cell hSw 1; go_simp <;> with_reducible rfl)
        try simp only [Act.put, List.setIfInBounds_toArray, List.set_cons_zero, List.set_cons_succ]
        refine wpAnyH_done (by kernel_rfl) ?_ _
        refine NoPanic.normal ?_
        simp only [Exit.inBlock]
        refine ⟨?_, ?measure⟩
        repeat apply Exists.intro
        refine ⟨?rel, rfl⟩
        case rel => exact ⟨k + 1, at_, K, rfl, rfl, hk1, hd2.out, hIK, hIa, hsd, S.weak hT4⟩
        case measure => simp [intOf]; omega
      · gi_wp2
        simp only [Exit.noGoto]
        go_end0
        exact ⟨⟨_, rfl⟩, .inr ⟨k, at_, hx'.out, hJx3⟩⟩
    · have hk0 : k = xs.length := by
        rw [wordsW_no hc] at hdr
        have := congrArg List.length hdr
        rw [List.length_drop] at this
        simp at this
        omega
      subst hk0
      have hR' := Lib.hid hR
      have hcc := Lib.hid hc
      clear hR hc hdr hV
      cases hok : rdOk M at_ with
      | false =>
        rw [hok] at hR'
        gi_wp2_with (first
          | (refine ⟨trivial, ?_⟩; gi_at_call 59; refine (callsIn_wide.2 hR'.out).mono ?_; rintro e w2 ⟨rfl, hT2, hs2⟩; have hT3 := S.new hT2 #[.int .i64 A, .int .i64 K, .string H, .bool I, .bool D, .int .i64 X] 65))
        refine ⟨fun _ h => (by cases h), ?_⟩
        gi_wp2
        simp only [Exit.noGoto]
        go_end0
        exact ⟨⟨_, rfl⟩, .inl (S.weak hT3)⟩
      | true =>
        have t1 : la ≤ at_ := by
          have := hcc.out
          simp only [hok, true_and, Int.not_lt] at this
          exact this
        rw [hok] at hR'
        gi_wp2_with (first
          | (refine ⟨trivial, ?_⟩; gi_at_call 59; refine (callsIn_wide.2 hR'.out).mono ?_; rintro e w2 ⟨rfl, hT2, hs2⟩; have hT3 := S.new hT2 #[.int .i64 A, .int .i64 K, .string H, .bool I, .bool D, .int .i64 X] 65))
        refine ⟨fun _ h => (by cases h), ?_⟩
        gi_wp2
        simp only [Exit.noGoto]
        go_end0
        exact ⟨⟨_, rfl⟩, .inl (S.weak hT3)⟩
end Go.Proofs.YtjihhojlakapnaaDoor
