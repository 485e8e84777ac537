/- A key that is not typed. -/
import Derived.Test.YtfmlbnkmckkjnaaE8
namespace Go.Proofs.Ytfmlbnkmckkjnaa
open Go.RowKit
set_option linter.unusedVariables false
set_option linter.unusedSimpArgs false
attribute [local go_sem] cell_set set_set m_undef

def swp (A Z : List UInt8) : List UInt8 × List UInt8 := (A.set (A.length - 1) (Z.getD 0 0) ++ [A.getD (A.length - 1) 0], Z.drop 1)
def swapL (A Z : List UInt8) : List UInt8 × List UInt8 :=
  if A.length = 0 ∨ (Z.length = 0 ∧ A.length = 1) then (A, Z) else if Z.length = 0 then swp (A.take (A.length - 1)) (A.drop (A.length - 1)) else swp A Z
/-- What a key makes of the bytes ahead and behind. -/
def keyL (c : Int) (A Z : List UInt8) : List UInt8 × List UInt8 :=
  if c = 8 ∨ c = 127 then (A.take (A.length - 1), Z)
  else if c = 4 then (A, Z.drop 1)
  else if c = 2 then (A.take (A.length - 1), A.drop (A.length - 1) ++ Z)
  else if c = 6 then (A ++ Z.take 1, Z.drop 1)
  else if c = 1 then ([], A ++ Z)
  else if c = 5 then (A ++ Z, [])
  else if c = 11 then (A, [])
  else if c = 21 then ([], Z)
  else if c = 23 then (A.take (A.length - wordN A), Z)
  else if c = 20 then swapL A Z
  else (A, Z)
/-- A line with these bytes, and what was there ahead of it is as it was. -/
def LineP (w w' : World) (base Lb : Nat) (p : List UInt8 × List UInt8) : Prop := ∃ va vz, LineV w' base Lb va vz p.1 p.2 ∧ Below base w w'
theorem LineP.mk {w w' : World} {base Lb : Nat} {va vz : Value} {A Z : List UInt8} {p : List UInt8 × List UInt8} (h : LineV w' base Lb va vz A Z) (hb : Below base w w') (e : p = (A, Z)) : LineP w w' base Lb p := by
  subst e; exact ⟨va, vz, h, hb⟩

theorem wSwap (w : World) (base Lb : Nat) (A Z : List UInt8) (va vz : Value) (h : LineV w base Lb va vz A Z) (hA : A.length + Z.length ≤ 5000) :
    Calls Try.prog 27 #[.pointer (some ⟨Lb, 0, none⟩)] w fun e w' => e = .returned (.tuple #[]) ∧ LineP w w' base Lb (swapL A Z) := by
  unfold swapL
  by_cases h0 : A.length = 0 ∨ (Z.length = 0 ∧ A.length = 1)
  · rw [if_pos h0]
    refine (wSwap0 w base Lb A Z va vz h h0 hA).mono ?_
    rintro e w' ⟨rfl, hL, hb⟩
    exact ⟨rfl, LineP.mk hL hb rfl⟩
  · rw [if_neg h0]
    by_cases hZ : Z.length = 0
    · rw [if_pos hZ]
      have hZn : Z = [] := List.length_eq_zero_iff.1 hZ
      have l1 : (A.take (A.length - (1 : Int).toNat)).length = A.length - 1 := by rw [List.length_take]; show min (A.length - 1) A.length = _; omega
      have l2 : (A.drop (A.length - (1 : Int).toNat) ++ Z).length = 1 := by rw [List.length_append, List.length_drop]; show A.length - (A.length - 1) + Z.length = _; omega
      refine (wSwap1 w base Lb A Z va vz h hA hZ (by omega) _ _ rfl rfl (by omega) (by omega) (by omega)).mono ?_
      rintro e w' ⟨rfl, va', vz', hL, hb⟩
      refine ⟨rfl, LineP.mk hL hb ?_⟩
      unfold swp
      subst hZn
      have q1 : (A.take (A.length - 1)).length = A.length - 1 := l1
      have q2 : (A.drop (A.length - 1)).length = 1 := by rw [List.length_drop]; omega
      rw [← List.getElem_eq_getD (h := by rw [q2]; omega), ← List.getElem_eq_getD (h := by rw [q1]; omega)]
      simp
    · rw [if_neg hZ]
      refine (wSwap2 w base Lb A Z va vz h hA (by omega) (by omega)).mono ?_
      rintro e w' ⟨rfl, va', vz', hL, hb⟩
      refine ⟨rfl, LineP.mk hL hb ?_⟩
      unfold swp
      rw [← List.getElem_eq_getD (h := by omega), ← List.getElem_eq_getD (h := by omega)]

set_option maxHeartbeats 800000 in
theorem wKey_8 (w : World) (base Lb : Nat) (A Z : List UInt8) (va vz : Value) (h : LineV w base Lb va vz A Z) (hA : A.length + Z.length ≤ 5000) :
    Calls Try.prog 17 #[.pointer (some ⟨Lb, 0, none⟩), .int .u8 8] w fun e w' => e = .returned (.tuple #[]) ∧ LineP w w' base Lb (keyL 8 A Z) := by
  have HD := Lib.hid (wDrop w base Lb A Z va vz 1 h (by omega) hA)
  clear h
  go_enter Try.func17, Try.ntmps17
  go_wp2_with (go_at_call 23; refine (HD.out).mono ?_; rintro e w1 ⟨v', va', rfl, hv', hL', hb', ho'⟩)
  (try go_end0)
  exact ⟨rfl, LineP.mk hL' hb' (by rfl)⟩
set_option maxHeartbeats 800000 in
theorem wKey_127 (w : World) (base Lb : Nat) (A Z : List UInt8) (va vz : Value) (h : LineV w base Lb va vz A Z) (hA : A.length + Z.length ≤ 5000) :
    Calls Try.prog 17 #[.pointer (some ⟨Lb, 0, none⟩), .int .u8 127] w fun e w' => e = .returned (.tuple #[]) ∧ LineP w w' base Lb (keyL 127 A Z) := by
  have HD := Lib.hid (wDrop w base Lb A Z va vz 1 h (by omega) hA)
  clear h
  go_enter Try.func17, Try.ntmps17
  go_wp2_with (go_at_call 23; refine (HD.out).mono ?_; rintro e w1 ⟨v', va', rfl, hv', hL', hb', ho'⟩)
  (try go_end0)
  exact ⟨rfl, LineP.mk hL' hb' (by rfl)⟩
set_option maxHeartbeats 800000 in
theorem wKey_2 (w : World) (base Lb : Nat) (A Z : List UInt8) (va vz : Value) (h : LineV w base Lb va vz A Z) (hA : A.length + Z.length ≤ 5000) :
    Calls Try.prog 17 #[.pointer (some ⟨Lb, 0, none⟩), .int .u8 2] w fun e w' => e = .returned (.tuple #[]) ∧ LineP w w' base Lb (keyL 2 A Z) := by
  have HD := Lib.hid (wBack w base Lb A Z va vz 1 h (by omega) hA)
  clear h
  go_enter Try.func17, Try.ntmps17
  go_wp2_with (go_at_call 24; refine (HD.out).mono ?_; rintro e w1 ⟨rfl, va', vz', hL', hb'⟩)
  (try go_end0)
  exact ⟨rfl, LineP.mk hL' hb' (by rfl)⟩
set_option maxHeartbeats 800000 in
theorem wKey_6 (w : World) (base Lb : Nat) (A Z : List UInt8) (va vz : Value) (h : LineV w base Lb va vz A Z) (hA : A.length + Z.length ≤ 5000) :
    Calls Try.prog 17 #[.pointer (some ⟨Lb, 0, none⟩), .int .u8 6] w fun e w' => e = .returned (.tuple #[]) ∧ LineP w w' base Lb (keyL 6 A Z) := by
  have HD := Lib.hid (wOn w base Lb A Z va vz 1 h (by omega) hA)
  clear h
  go_enter Try.func17, Try.ntmps17
  go_wp2_with (go_at_call 25; refine (HD.out).mono ?_; rintro e w1 ⟨rfl, va', vz', hL', hb'⟩)
  (try go_end0)
  exact ⟨rfl, LineP.mk hL' hb' (by show (A ++ Z.take 1, Z.drop 1) = (A ++ Z.take (min 1 Z.length), Z.drop (min 1 Z.length)); cases Z <;> simp)⟩
set_option maxHeartbeats 800000 in
theorem wKey_1 (w : World) (base Lb : Nat) (A Z : List UInt8) (va vz : Value) (h : LineV w base Lb va vz A Z) (hA : A.length + Z.length ≤ 5000) :
    Calls Try.prog 17 #[.pointer (some ⟨Lb, 0, none⟩), .int .u8 1] w fun e w' => e = .returned (.tuple #[]) ∧ LineP w w' base Lb (keyL 1 A Z) := by
  have HD := Lib.hid (wBack w base Lb A Z va vz (A.length : Int) h (by omega) hA)
  obtain ⟨hB, ha, hz, h1, h2, h3, h4⟩ := h
  obtain ⟨aa, ca, rfl, _⟩ := ha.len
  obtain ⟨az, cz, rfl, _⟩ := hz.len
  obtain ⟨c0, c1, f0, f1, hlt⟩ := hB.two
  clear hB ha hz h1 h2 h3 h4 hA
  go_enter Try.func17, Try.ntmps17
  go_wp2_with (go_at_call 24; refine (HD.out).mono ?_; rintro e w1 ⟨rfl, va', vz', hL', hb'⟩)
  (try go_end0)
  exact ⟨rfl, LineP.mk hL' hb' (by show ([], A ++ Z) = (A.take (A.length - A.length), A.drop (A.length - A.length) ++ Z); simp)⟩
set_option maxHeartbeats 800000 in
theorem wKey_5 (w : World) (base Lb : Nat) (A Z : List UInt8) (va vz : Value) (h : LineV w base Lb va vz A Z) (hA : A.length + Z.length ≤ 5000) :
    Calls Try.prog 17 #[.pointer (some ⟨Lb, 0, none⟩), .int .u8 5] w fun e w' => e = .returned (.tuple #[]) ∧ LineP w w' base Lb (keyL 5 A Z) := by
  have HD := Lib.hid (wOn w base Lb A Z va vz (Z.length : Int) h (by omega) hA)
  obtain ⟨hB, ha, hz, h1, h2, h3, h4⟩ := h
  obtain ⟨aa, ca, rfl, _⟩ := ha.len
  obtain ⟨az, cz, rfl, _⟩ := hz.len
  obtain ⟨c0, c1, f0, f1, hlt⟩ := hB.two
  clear hB ha hz h1 h2 h3 h4 hA
  go_enter Try.func17, Try.ntmps17
  go_wp2_with (go_at_call 25; refine (HD.out).mono ?_; rintro e w1 ⟨rfl, va', vz', hL', hb'⟩)
  (try go_end0)
  exact ⟨rfl, LineP.mk hL' hb' (by show (A ++ Z, []) = (A ++ Z.take (min Z.length Z.length), Z.drop (min Z.length Z.length)); simp)⟩
set_option maxHeartbeats 800000 in
theorem wKey_23 (w : World) (base Lb : Nat) (A Z : List UInt8) (va vz : Value) (h : LineV w base Lb va vz A Z) (hA : A.length + Z.length ≤ 5000) :
    Calls Try.prog 17 #[.pointer (some ⟨Lb, 0, none⟩), .int .u8 23] w fun e w' => e = .returned (.tuple #[]) ∧ LineP w w' base Lb (keyL 23 A Z) := by
  have HW := Lib.hid (wWord w base Lb A Z va vz h (by omega))
  have hle := wordN_le A
  have HD := Lib.hid (fun w' (hb : Below w.heap.size w w') => wDrop w' base Lb A Z va vz (wordN A : Int) (h.below hb) (by omega) hA)
  have hlt := h.2.2.2.2.2.2
  have hBl := h.1.lt
  have hle2 : base ≤ w.heap.size := by omega
  obtain ⟨n, hn⟩ : ∃ n, n = wordN A := ⟨_, rfl⟩
  rw [← hn] at HW HD
  have hgoal := Lib.hid (show keyL 23 A Z = (A.take (A.length - n), Z) by rw [hn]; rfl)
  clear h hle hn hlt hBl
  go_enter Try.func17, Try.ntmps17
  go_wp2_with (first
    | (go_at_call_of 23 n; refine (HD.out _ hbw).mono ?_; rintro e w2 ⟨v', va', rfl, hv', hL', hb', ho'⟩)
    | (go_at_call 26; refine (HW.out).mono ?_; rintro e w1 ⟨rfl, hbw⟩))
  (try go_end0)
  exact ⟨rfl, LineP.mk hL' ((hbw.mono hle2).trans hb') hgoal.out⟩
set_option maxHeartbeats 800000 in
theorem wKey_20 (w : World) (base Lb : Nat) (A Z : List UInt8) (va vz : Value) (h : LineV w base Lb va vz A Z) (hA : A.length + Z.length ≤ 5000) :
    Calls Try.prog 17 #[.pointer (some ⟨Lb, 0, none⟩), .int .u8 20] w fun e w' => e = .returned (.tuple #[]) ∧ LineP w w' base Lb (keyL 20 A Z) := by
  have HD := Lib.hid (wSwap w base Lb A Z va vz h hA)
  clear h
  go_enter Try.func17, Try.ntmps17
  go_wp2_with (go_at_call 27; refine (HD.out).mono ?_; rintro e w1 ⟨rfl, hP⟩)
  (try go_end0)
  exact ⟨rfl, hP⟩
set_option maxHeartbeats 800000 in
theorem wKey_11 (w : World) (base Lb : Nat) (A Z : List UInt8) (va vz : Value) (h : LineV w base Lb va vz A Z) (hA : A.length + Z.length ≤ 5000) :
    Calls Try.prog 17 #[.pointer (some ⟨Lb, 0, none⟩), .int .u8 11] w fun e w' => e = .returned (.tuple #[]) ∧ LineP w w' base Lb (keyL 11 A Z) := by
  have h0 := h
  have hxx := h
  obtain ⟨hB, ha, hz, h1, h2, h3, h4⟩ := h
  obtain ⟨aa, na, ca, rfl⟩ := ha.form
  obtain ⟨az, nz, cz, rfl⟩ := hz.form
  obtain ⟨c0, c1, f0, f1, hlt⟩ := hB.two
  have hnil : Bs w base (.slice none 0 0) [] := .inl ⟨rfl, rfl⟩
  have hL := Lib.hid (Line.set1 hB ha hnil (by cases (Value.slice aa na ca).ownBlock <;> simp [Value.ownBlock]) h2 (by simp [Value.ownBlock]) h4)
  have hbx := Lib.hid ((Below.refl base w).setCell (p := ⟨Lb, 1, none⟩) h4 (.slice none 0 0))
  clear h0 hxx hB ha hz h1 h2 h3 h4 hnil
  go_enter Try.func17, Try.ntmps17
  go_wp2
  (try go_end0)
  exact ⟨rfl, LineP.mk hL.out hbx.out (by rfl)⟩
set_option maxHeartbeats 800000 in
theorem wKey_21 (w : World) (base Lb : Nat) (A Z : List UInt8) (va vz : Value) (h : LineV w base Lb va vz A Z) (hA : A.length + Z.length ≤ 5000) :
    Calls Try.prog 17 #[.pointer (some ⟨Lb, 0, none⟩), .int .u8 21] w fun e w' => e = .returned (.tuple #[]) ∧ LineP w w' base Lb (keyL 21 A Z) := by
  have h0 := h
  have hxx := h
  obtain ⟨hB, ha, hz, h1, h2, h3, h4⟩ := h
  obtain ⟨aa, na, ca, rfl⟩ := ha.form
  obtain ⟨az, nz, cz, rfl⟩ := hz.form
  obtain ⟨c0, c1, f0, f1, hlt⟩ := hB.two
  have hnil : Bs w base (.slice none 0 0) [] := .inl ⟨rfl, rfl⟩
  have hL := Lib.hid (Line.set0 hB hnil hz (.inl rfl) (by simp [Value.ownBlock]) h3 h4)
  have hbx := Lib.hid ((Below.refl base w).setCell (p := ⟨Lb, 0, none⟩) h4 (.slice none 0 0))
  clear h0 hxx hB ha hz h1 h2 h3 h4 hnil
  go_enter Try.func17, Try.ntmps17
  go_wp2
  (try go_end0)
  exact ⟨rfl, LineP.mk hL.out hbx.out (by rfl)⟩
set_option maxHeartbeats 800000 in
theorem wKey_4 (w : World) (base Lb : Nat) (A Z : List UInt8) (va vz : Value) (h : LineV w base Lb va vz A Z) (hA : A.length + Z.length ≤ 5000) :
    Calls Try.prog 17 #[.pointer (some ⟨Lb, 0, none⟩), .int .u8 4] w fun e w' => e = .returned (.tuple #[]) ∧ LineP w w' base Lb (keyL 4 A Z) := by
  obtain ⟨hB, ha, hz, h1, h2, h3, h4⟩ := h
  obtain ⟨c0, c1, f0, f1, hlt⟩ := hB.two
  have haD : Bs w.drew base va A := ha
  have hzD : Bs w.drew base vz Z := hz
  have hBD : Blk w.drew Lb #[va, vz] 41 := hB
  obtain ⟨aa, na, ca, rfl⟩ := ha.form
  rcases hz with ⟨rfl, rfl⟩ | ⟨b, o, cap, rfl, h5⟩
  · have hgoal := Lib.hid (show keyL 4 A [] = (A, []) by rfl)
    go_enter Try.func17, Try.ntmps17
    go_upto_region 5 with fail
    refine wp_region_noPanic ?_
    refine wp_region_held_drew (S := (fun _ => True)) (by kernel_rfl) ?_ (fun hHeld => ?_)
    · (try dsimp only); (try trivial)
    refine wpAnyH_take (i := 0) (oi := { dst := some 12, op := Go.Op.move (Go.Operand.tmp 0), type := 36, pos := "editor.go:69", after := #[], guard := none }) (v := ?v1) rfl (by kernel_rfl) (by kernel_rfl) (by kernel_rfl) (fun _ _ _ h => h) (Or.inl ⟨by rfl, ?hy1⟩) (by assumption) ?rest1
    case hy1 => (intro w hSw; (try dsimp only at hSw); go_simp <;> with_reducible rfl)
    try simp only [Act.put, List.setIfInBounds_toArray, List.set_cons_zero, List.set_cons_succ]
    refine wpAnyH_take (i := 1) (oi := { dst := some 13, op := Go.Op.move (Go.Operand.tmp 0), type := 36, pos := "editor.go:69", after := #[], guard := none }) (v := ?v2) rfl (by kernel_rfl) (by kernel_rfl) (by kernel_rfl) (fun _ _ _ h => h) (Or.inl ⟨by rfl, ?hy2⟩) (by assumption) ?rest2
    case hy2 => (intro w hSw; (try dsimp only at hSw); go_simp <;> with_reducible rfl)
    try simp only [Act.put, List.setIfInBounds_toArray, List.set_cons_zero, List.set_cons_succ]
    refine wpAnyH_take (i := 2) (oi := { dst := some 14, op := Go.Op.nilCheck (Go.Operand.tmp 13), type := 0, pos := "editor.go:69", after := #[{ on := 1, ground := Go.Ground.data }], guard := none }) (v := ?v3) rfl (by kernel_rfl) (by kernel_rfl) (by kernel_rfl) (fun _ _ _ h => h) (Or.inl ⟨by rfl, ?hy3⟩) (by assumption) ?rest3
    case hy3 => (intro w hSw; (try dsimp only at hSw); go_simp <;> with_reducible rfl)
    try simp only [Act.put, List.setIfInBounds_toArray, List.set_cons_zero, List.set_cons_succ]
    refine wpAnyH_take (i := 3) (oi := { dst := some 15, op := Go.Op.fieldAddr 41 (Go.Operand.tmp 14) 1, type := 0, pos := "editor.go:69", after := #[{ on := 2, ground := Go.Ground.data }], guard := none }) (v := ?v4) rfl (by kernel_rfl) (by kernel_rfl) (by kernel_rfl) (fun _ _ _ h => h) (Or.inl ⟨by rfl, ?hy4⟩) (by assumption) ?rest4
    case hy4 => (intro w hSw; (try dsimp only at hSw); go_simp <;> with_reducible rfl)
    try simp only [Act.put, List.setIfInBounds_toArray, List.set_cons_zero, List.set_cons_succ]
    refine wpAnyH_take (i := 5) (oi := { dst := some 17, op := Go.Op.move (Go.Operand.tmp 0), type := 36, pos := "editor.go:69", after := #[], guard := none }) (v := ?v5) rfl (by kernel_rfl) (by kernel_rfl) (by kernel_rfl) (fun _ _ _ h => h) (Or.inl ⟨by rfl, ?hy5⟩) (by assumption) ?rest5
    case hy5 => (intro w hSw; (try dsimp only at hSw); go_simp <;> with_reducible rfl)
    try simp only [Act.put, List.setIfInBounds_toArray, List.set_cons_zero, List.set_cons_succ]
    refine wpAnyH_take (i := 6) (oi := { dst := some 18, op := Go.Op.nilCheck (Go.Operand.tmp 17), type := 0, pos := "editor.go:69", after := #[{ on := 5, ground := Go.Ground.data }], guard := none }) (v := ?v6) rfl (by kernel_rfl) (by kernel_rfl) (by kernel_rfl) (fun _ _ _ h => h) (Or.inl ⟨by rfl, ?hy6⟩) (by assumption) ?rest6
    case hy6 => (intro w hSw; (try dsimp only at hSw); go_simp <;> with_reducible rfl)
    try simp only [Act.put, List.setIfInBounds_toArray, List.set_cons_zero, List.set_cons_succ]
    refine wpAnyH_take (i := 7) (oi := { dst := some 19, op := Go.Op.fieldAddr 41 (Go.Operand.tmp 18) 1, type := 0, pos := "editor.go:69", after := #[{ on := 6, ground := Go.Ground.data }], guard := none }) (v := ?v7) rfl (by kernel_rfl) (by kernel_rfl) (by kernel_rfl) (fun _ _ _ h => h) (Or.inl ⟨by rfl, ?hy7⟩) (by assumption) ?rest7
    case hy7 => (intro w hSw; (try dsimp only at hSw); go_simp <;> with_reducible rfl)
    try simp only [Act.put, List.setIfInBounds_toArray, List.set_cons_zero, List.set_cons_succ]
    refine wpAnyH_ready (rs := [4, 8]) (by kernel_rfl) (by simp) ?_
    refine AllReadyH.cons (o := { dst := some 16, op := Go.Op.load 39 (Go.Operand.tmp 15), type := 39, pos := "editor.go:69", after := #[{ on := 3, ground := Go.Ground.data }], guard := none }) rfl (fun K hK => ?_) ?_
    ·
      go_simp
      refine hK.out _ _ ?_ (fun hHeld2 => ?_)
      · (try dsimp only); (try trivial)
      clear hK K hHeld
      have hHeld := hHeld2
      clear hHeld2
      try simp only [Act.put, List.setIfInBounds_toArray, List.set_cons_zero, List.set_cons_succ]
      refine wpAnyH_ready (rs := [8]) (by kernel_rfl) (by simp) ?_
      refine AllReadyH.cons (o := { dst := some 20, op := Go.Op.load 39 (Go.Operand.tmp 19), type := 39, pos := "editor.go:69", after := #[{ on := 7, ground := Go.Ground.data }], guard := none }) rfl (fun K hK => ?_) AllReadyH.nil
      go_simp
      refine hK.out _ _ ?_ (fun hHeld2 => ?_)
      · (try dsimp only); (try trivial)
      clear hK K hHeld
      have hHeld := hHeld2
      clear hHeld2
      try simp only [Act.put, List.setIfInBounds_toArray, List.set_cons_zero, List.set_cons_succ]
      refine wpAnyH_take (i := 9) (oi := { dst := some 21, op := Go.Op.call { callee := Go.Callee.builtin Go.Builtin.len, args := #[Go.Operand.tmp 20], argTypes := #[39] }, type := 3, pos := "editor.go:69", after := #[{ on := 8, ground := Go.Ground.data }], guard := none }) (v := ?v8) rfl (by kernel_rfl) (by kernel_rfl) (by kernel_rfl) (fun _ _ _ h => h) (Or.inl ⟨by rfl, ?hy8⟩) (by assumption) ?rest8
      case hy8 => (intro w hSw; (try dsimp only at hSw); go_simp <;> with_reducible rfl)
      try simp only [Act.put, List.setIfInBounds_toArray, List.set_cons_zero, List.set_cons_succ]
      refine wpAnyH_take (i := 10) (oi := { dst := some 22, op := Go.Op.call { callee := Go.Callee.builtin Go.Builtin.min, args := #[Go.Operand.const (Go.Value.int Go.IntKind.i64 1), Go.Operand.tmp 21], argTypes := #[3, 3] }, type := 3, pos := "editor.go:69", after := #[{ on := 9, ground := Go.Ground.data }], guard := none }) (v := ?v9) rfl (by kernel_rfl) (by kernel_rfl) (by kernel_rfl) (fun _ _ _ h => h) (Or.inl ⟨by rfl, ?hy9⟩) (by assumption) ?rest9
      case hy9 => (intro w hSw; (try dsimp only at hSw); go_simp <;> with_reducible rfl)
      try simp only [Act.put, List.setIfInBounds_toArray, List.set_cons_zero, List.set_cons_succ]
      refine wpAnyH_take (i := 11) (oi := { dst := some 23, op := Go.Op.slice 39 (Go.Operand.tmp 16) (some (Go.Operand.tmp 22)) none none, type := 39, pos := "editor.go:69", after := #[{ on := 4, ground := Go.Ground.data }, { on := 10, ground := Go.Ground.data }], guard := none }) (v := ?v10) rfl (by kernel_rfl) (by kernel_rfl) (by kernel_rfl) (fun _ _ _ h => h) (Or.inl ⟨by rfl, ?hy10⟩) (by assumption) ?rest10
      case hy10 => (intro w hSw; (try dsimp only at hSw); go_simp <;> with_reducible rfl)
      try simp only [Act.put, List.setIfInBounds_toArray, List.set_cons_zero, List.set_cons_succ]
      refine wpAnyH_take (i := 12) (oi := { dst := some 24, op := Go.Op.nilCheck (Go.Operand.tmp 12), type := 0, pos := "editor.go:69", after := #[{ on := 0, ground := Go.Ground.data }, { on := 0, ground := Go.Ground.phase }, { on := 1, ground := Go.Ground.phase }, { on := 2, ground := Go.Ground.phase }, { on := 3, ground := Go.Ground.phase }, { on := 4, ground := Go.Ground.phase }, { on := 5, ground := Go.Ground.phase }, { on := 6, ground := Go.Ground.phase }, { on := 7, ground := Go.Ground.phase }, { on := 8, ground := Go.Ground.phase }, { on := 9, ground := Go.Ground.phase }, { on := 10, ground := Go.Ground.phase }, { on := 11, ground := Go.Ground.phase }], guard := none }) (v := ?v11) rfl (by kernel_rfl) (by kernel_rfl) (by kernel_rfl) (fun _ _ _ h => h) (Or.inl ⟨by rfl, ?hy11⟩) (by assumption) ?rest11
      case hy11 => (intro w hSw; (try dsimp only at hSw); go_simp <;> with_reducible rfl)
      try simp only [Act.put, List.setIfInBounds_toArray, List.set_cons_zero, List.set_cons_succ]
      refine wpAnyH_take (i := 13) (oi := { dst := some 25, op := Go.Op.fieldAddr 41 (Go.Operand.tmp 24) 1, type := 0, pos := "editor.go:69", after := #[{ on := 12, ground := Go.Ground.data }, { on := 0, ground := Go.Ground.phase }, { on := 1, ground := Go.Ground.phase }, { on := 2, ground := Go.Ground.phase }, { on := 3, ground := Go.Ground.phase }, { on := 4, ground := Go.Ground.phase }, { on := 5, ground := Go.Ground.phase }, { on := 6, ground := Go.Ground.phase }, { on := 7, ground := Go.Ground.phase }, { on := 8, ground := Go.Ground.phase }, { on := 9, ground := Go.Ground.phase }, { on := 10, ground := Go.Ground.phase }, { on := 11, ground := Go.Ground.phase }], guard := none }) (v := ?v12) rfl (by kernel_rfl) (by kernel_rfl) (by kernel_rfl) (fun _ _ _ h => h) (Or.inl ⟨by rfl, ?hy12⟩) (by assumption) ?rest12
      case hy12 => (intro w hSw; (try dsimp only at hSw); go_simp <;> with_reducible rfl)
      try simp only [Act.put, List.setIfInBounds_toArray, List.set_cons_zero, List.set_cons_succ]
      refine wpAnyH_ready (rs := [14]) (by kernel_rfl) (by simp) ?_
      refine AllReadyH.cons (o := { dst := none, op := Go.Op.store 39 (Go.Operand.tmp 25) (Go.Operand.tmp 23), type := 0, pos := "editor.go:69", after := #[{ on := 13, ground := Go.Ground.data }, { on := 11, ground := Go.Ground.data }, { on := 0, ground := Go.Ground.phase }, { on := 1, ground := Go.Ground.phase }, { on := 2, ground := Go.Ground.phase }, { on := 3, ground := Go.Ground.phase }, { on := 4, ground := Go.Ground.phase }, { on := 5, ground := Go.Ground.phase }, { on := 6, ground := Go.Ground.phase }, { on := 7, ground := Go.Ground.phase }, { on := 8, ground := Go.Ground.phase }, { on := 9, ground := Go.Ground.phase }, { on := 10, ground := Go.Ground.phase }, { on := 11, ground := Go.Ground.phase }], guard := none }) rfl (fun K hK => ?_) AllReadyH.nil
      go_simp
      refine hK.out _ _ ?_ (fun hHeld2 => ?_)
      · (try dsimp only); (try trivial)
      clear hK K hHeld
      have hHeld := hHeld2
      clear hHeld2
      try simp only [Act.put, List.setIfInBounds_toArray, List.set_cons_zero, List.set_cons_succ]
      refine wpAnyH_done (by kernel_rfl) ?_ _
      refine NoPanic.normal ?_
      go_wp2
      (try go_end0)
      exact ⟨rfl, LineP.mk (Line.set1 hBD haD hzD h1 h2 h3 h4) (((Below.refl base w).drew).setCell (p := ⟨Lb, 1, none⟩) h4 _) (hgoal.out)⟩
    refine AllReadyH.cons (o := { dst := some 20, op := Go.Op.load 39 (Go.Operand.tmp 19), type := 39, pos := "editor.go:69", after := #[{ on := 7, ground := Go.Ground.data }], guard := none }) rfl (fun K hK => ?_) ?_
    ·
      go_simp
      refine hK.out _ _ ?_ (fun hHeld2 => ?_)
      · (try dsimp only); (try trivial)
      clear hK K hHeld
      have hHeld := hHeld2
      clear hHeld2
      try simp only [Act.put, List.setIfInBounds_toArray, List.set_cons_zero, List.set_cons_succ]
      refine wpAnyH_take (i := 9) (oi := { dst := some 21, op := Go.Op.call { callee := Go.Callee.builtin Go.Builtin.len, args := #[Go.Operand.tmp 20], argTypes := #[39] }, type := 3, pos := "editor.go:69", after := #[{ on := 8, ground := Go.Ground.data }], guard := none }) (v := ?v13) rfl (by kernel_rfl) (by kernel_rfl) (by kernel_rfl) (fun _ _ _ h => h) (Or.inl ⟨by rfl, ?hy13⟩) (by assumption) ?rest13
      case hy13 => (intro w hSw; (try dsimp only at hSw); go_simp <;> with_reducible rfl)
      try simp only [Act.put, List.setIfInBounds_toArray, List.set_cons_zero, List.set_cons_succ]
      refine wpAnyH_take (i := 10) (oi := { dst := some 22, op := Go.Op.call { callee := Go.Callee.builtin Go.Builtin.min, args := #[Go.Operand.const (Go.Value.int Go.IntKind.i64 1), Go.Operand.tmp 21], argTypes := #[3, 3] }, type := 3, pos := "editor.go:69", after := #[{ on := 9, ground := Go.Ground.data }], guard := none }) (v := ?v14) rfl (by kernel_rfl) (by kernel_rfl) (by kernel_rfl) (fun _ _ _ h => h) (Or.inl ⟨by rfl, ?hy14⟩) (by assumption) ?rest14
      case hy14 => (intro w hSw; (try dsimp only at hSw); go_simp <;> with_reducible rfl)
      try simp only [Act.put, List.setIfInBounds_toArray, List.set_cons_zero, List.set_cons_succ]
      refine wpAnyH_ready (rs := [4]) (by kernel_rfl) (by simp) ?_
      refine AllReadyH.cons (o := { dst := some 16, op := Go.Op.load 39 (Go.Operand.tmp 15), type := 39, pos := "editor.go:69", after := #[{ on := 3, ground := Go.Ground.data }], guard := none }) rfl (fun K hK => ?_) AllReadyH.nil
      go_simp
      refine hK.out _ _ ?_ (fun hHeld2 => ?_)
      · (try dsimp only); (try trivial)
      clear hK K hHeld
      have hHeld := hHeld2
      clear hHeld2
      try simp only [Act.put, List.setIfInBounds_toArray, List.set_cons_zero, List.set_cons_succ]
      refine wpAnyH_take (i := 11) (oi := { dst := some 23, op := Go.Op.slice 39 (Go.Operand.tmp 16) (some (Go.Operand.tmp 22)) none none, type := 39, pos := "editor.go:69", after := #[{ on := 4, ground := Go.Ground.data }, { on := 10, ground := Go.Ground.data }], guard := none }) (v := ?v15) rfl (by kernel_rfl) (by kernel_rfl) (by kernel_rfl) (fun _ _ _ h => h) (Or.inl ⟨by rfl, ?hy15⟩) (by assumption) ?rest15
      case hy15 => (intro w hSw; (try dsimp only at hSw); go_simp <;> with_reducible rfl)
      try simp only [Act.put, List.setIfInBounds_toArray, List.set_cons_zero, List.set_cons_succ]
      refine wpAnyH_take (i := 12) (oi := { dst := some 24, op := Go.Op.nilCheck (Go.Operand.tmp 12), type := 0, pos := "editor.go:69", after := #[{ on := 0, ground := Go.Ground.data }, { on := 0, ground := Go.Ground.phase }, { on := 1, ground := Go.Ground.phase }, { on := 2, ground := Go.Ground.phase }, { on := 3, ground := Go.Ground.phase }, { on := 4, ground := Go.Ground.phase }, { on := 5, ground := Go.Ground.phase }, { on := 6, ground := Go.Ground.phase }, { on := 7, ground := Go.Ground.phase }, { on := 8, ground := Go.Ground.phase }, { on := 9, ground := Go.Ground.phase }, { on := 10, ground := Go.Ground.phase }, { on := 11, ground := Go.Ground.phase }], guard := none }) (v := ?v16) rfl (by kernel_rfl) (by kernel_rfl) (by kernel_rfl) (fun _ _ _ h => h) (Or.inl ⟨by rfl, ?hy16⟩) (by assumption) ?rest16
      case hy16 => (intro w hSw; (try dsimp only at hSw); go_simp <;> with_reducible rfl)
      try simp only [Act.put, List.setIfInBounds_toArray, List.set_cons_zero, List.set_cons_succ]
      refine wpAnyH_take (i := 13) (oi := { dst := some 25, op := Go.Op.fieldAddr 41 (Go.Operand.tmp 24) 1, type := 0, pos := "editor.go:69", after := #[{ on := 12, ground := Go.Ground.data }, { on := 0, ground := Go.Ground.phase }, { on := 1, ground := Go.Ground.phase }, { on := 2, ground := Go.Ground.phase }, { on := 3, ground := Go.Ground.phase }, { on := 4, ground := Go.Ground.phase }, { on := 5, ground := Go.Ground.phase }, { on := 6, ground := Go.Ground.phase }, { on := 7, ground := Go.Ground.phase }, { on := 8, ground := Go.Ground.phase }, { on := 9, ground := Go.Ground.phase }, { on := 10, ground := Go.Ground.phase }, { on := 11, ground := Go.Ground.phase }], guard := none }) (v := ?v17) rfl (by kernel_rfl) (by kernel_rfl) (by kernel_rfl) (fun _ _ _ h => h) (Or.inl ⟨by rfl, ?hy17⟩) (by assumption) ?rest17
      case hy17 => (intro w hSw; (try dsimp only at hSw); go_simp <;> with_reducible rfl)
      try simp only [Act.put, List.setIfInBounds_toArray, List.set_cons_zero, List.set_cons_succ]
      refine wpAnyH_ready (rs := [14]) (by kernel_rfl) (by simp) ?_
      refine AllReadyH.cons (o := { dst := none, op := Go.Op.store 39 (Go.Operand.tmp 25) (Go.Operand.tmp 23), type := 0, pos := "editor.go:69", after := #[{ on := 13, ground := Go.Ground.data }, { on := 11, ground := Go.Ground.data }, { on := 0, ground := Go.Ground.phase }, { on := 1, ground := Go.Ground.phase }, { on := 2, ground := Go.Ground.phase }, { on := 3, ground := Go.Ground.phase }, { on := 4, ground := Go.Ground.phase }, { on := 5, ground := Go.Ground.phase }, { on := 6, ground := Go.Ground.phase }, { on := 7, ground := Go.Ground.phase }, { on := 8, ground := Go.Ground.phase }, { on := 9, ground := Go.Ground.phase }, { on := 10, ground := Go.Ground.phase }, { on := 11, ground := Go.Ground.phase }], guard := none }) rfl (fun K hK => ?_) AllReadyH.nil
      go_simp
      refine hK.out _ _ ?_ (fun hHeld2 => ?_)
      · (try dsimp only); (try trivial)
      clear hK K hHeld
      have hHeld := hHeld2
      clear hHeld2
      try simp only [Act.put, List.setIfInBounds_toArray, List.set_cons_zero, List.set_cons_succ]
      refine wpAnyH_done (by kernel_rfl) ?_ _
      refine NoPanic.normal ?_
      go_wp2
      (try go_end0)
      exact ⟨rfl, LineP.mk (Line.set1 hBD haD hzD h1 h2 h3 h4) (((Below.refl base w).drew).setCell (p := ⟨Lb, 1, none⟩) h4 _) (hgoal.out)⟩
    exact AllReadyH.nil
  obtain ⟨m, hm⟩ : ∃ m, m = min 1 Z.length := ⟨_, rfl⟩
  have hmZ : m ≤ Z.length := by omega
  have hmin : (if (Z.length : Int) < 1 then (Z.length : Int) else 1) = (m : Int) := by split <;> omega
  have hcap := h5.2.2.1
  clear h5
  have hgoal := Lib.hid (show keyL 4 A Z = (A, Z.drop m) by
    show (A, Z.drop 1) = (A, Z.drop m)
    rw [hm]
    cases Z with
    | nil => rfl
    | cons z zs => rw [List.length_cons, Nat.min_eq_left (by omega)])
  have hf := hzD.from m hmZ
  have hm1 : (m : Int) ≤ (Z.length : Int) := by omega
  have hm2 : (m : Int) ≤ (cap : Int) := by omega
  clear hm
  have hsp : Value.ownBlock (.slice (some ⟨b, o, none⟩) Z.length cap) = some b := rfl
  rw [hsp] at h1 h3
  by_cases hcm : cap = m
  · subst hcm
    rw [if_pos rfl, Nat.sub_self, show Z.length - cap = 0 by omega] at hf
    go_enter Try.func17, Try.ntmps17
    go_upto_region 5 with fail
    refine wp_region_noPanic ?_
    refine wp_region_held_drew (S := (fun _ => True)) (by kernel_rfl) ?_ (fun hHeld => ?_)
    · (try dsimp only); (try trivial)
    refine wpAnyH_take (i := 0) (oi := { dst := some 12, op := Go.Op.move (Go.Operand.tmp 0), type := 36, pos := "editor.go:69", after := #[], guard := none }) (v := ?v18) rfl (by kernel_rfl) (by kernel_rfl) (by kernel_rfl) (fun _ _ _ h => h) (Or.inl ⟨by rfl, ?hy18⟩) (by assumption) ?rest18
    case hy18 => (intro w hSw; (try dsimp only at hSw); go_simp <;> with_reducible rfl)
    try simp only [Act.put, List.setIfInBounds_toArray, List.set_cons_zero, List.set_cons_succ]
    refine wpAnyH_take (i := 1) (oi := { dst := some 13, op := Go.Op.move (Go.Operand.tmp 0), type := 36, pos := "editor.go:69", after := #[], guard := none }) (v := ?v19) rfl (by kernel_rfl) (by kernel_rfl) (by kernel_rfl) (fun _ _ _ h => h) (Or.inl ⟨by rfl, ?hy19⟩) (by assumption) ?rest19
    case hy19 => (intro w hSw; (try dsimp only at hSw); go_simp <;> with_reducible rfl)
    try simp only [Act.put, List.setIfInBounds_toArray, List.set_cons_zero, List.set_cons_succ]
    refine wpAnyH_take (i := 2) (oi := { dst := some 14, op := Go.Op.nilCheck (Go.Operand.tmp 13), type := 0, pos := "editor.go:69", after := #[{ on := 1, ground := Go.Ground.data }], guard := none }) (v := ?v20) rfl (by kernel_rfl) (by kernel_rfl) (by kernel_rfl) (fun _ _ _ h => h) (Or.inl ⟨by rfl, ?hy20⟩) (by assumption) ?rest20
    case hy20 => (intro w hSw; (try dsimp only at hSw); go_simp <;> with_reducible rfl)
    try simp only [Act.put, List.setIfInBounds_toArray, List.set_cons_zero, List.set_cons_succ]
    refine wpAnyH_take (i := 3) (oi := { dst := some 15, op := Go.Op.fieldAddr 41 (Go.Operand.tmp 14) 1, type := 0, pos := "editor.go:69", after := #[{ on := 2, ground := Go.Ground.data }], guard := none }) (v := ?v21) rfl (by kernel_rfl) (by kernel_rfl) (by kernel_rfl) (fun _ _ _ h => h) (Or.inl ⟨by rfl, ?hy21⟩) (by assumption) ?rest21
    case hy21 => (intro w hSw; (try dsimp only at hSw); go_simp <;> with_reducible rfl)
    try simp only [Act.put, List.setIfInBounds_toArray, List.set_cons_zero, List.set_cons_succ]
    refine wpAnyH_take (i := 5) (oi := { dst := some 17, op := Go.Op.move (Go.Operand.tmp 0), type := 36, pos := "editor.go:69", after := #[], guard := none }) (v := ?v22) rfl (by kernel_rfl) (by kernel_rfl) (by kernel_rfl) (fun _ _ _ h => h) (Or.inl ⟨by rfl, ?hy22⟩) (by assumption) ?rest22
    case hy22 => (intro w hSw; (try dsimp only at hSw); go_simp <;> with_reducible rfl)
    try simp only [Act.put, List.setIfInBounds_toArray, List.set_cons_zero, List.set_cons_succ]
    refine wpAnyH_take (i := 6) (oi := { dst := some 18, op := Go.Op.nilCheck (Go.Operand.tmp 17), type := 0, pos := "editor.go:69", after := #[{ on := 5, ground := Go.Ground.data }], guard := none }) (v := ?v23) rfl (by kernel_rfl) (by kernel_rfl) (by kernel_rfl) (fun _ _ _ h => h) (Or.inl ⟨by rfl, ?hy23⟩) (by assumption) ?rest23
    case hy23 => (intro w hSw; (try dsimp only at hSw); go_simp <;> with_reducible rfl)
    try simp only [Act.put, List.setIfInBounds_toArray, List.set_cons_zero, List.set_cons_succ]
    refine wpAnyH_take (i := 7) (oi := { dst := some 19, op := Go.Op.fieldAddr 41 (Go.Operand.tmp 18) 1, type := 0, pos := "editor.go:69", after := #[{ on := 6, ground := Go.Ground.data }], guard := none }) (v := ?v24) rfl (by kernel_rfl) (by kernel_rfl) (by kernel_rfl) (fun _ _ _ h => h) (Or.inl ⟨by rfl, ?hy24⟩) (by assumption) ?rest24
    case hy24 => (intro w hSw; (try dsimp only at hSw); go_simp <;> with_reducible rfl)
    try simp only [Act.put, List.setIfInBounds_toArray, List.set_cons_zero, List.set_cons_succ]
    refine wpAnyH_ready (rs := [4, 8]) (by kernel_rfl) (by simp) ?_
    refine AllReadyH.cons (o := { dst := some 16, op := Go.Op.load 39 (Go.Operand.tmp 15), type := 39, pos := "editor.go:69", after := #[{ on := 3, ground := Go.Ground.data }], guard := none }) rfl (fun K hK => ?_) ?_
    ·
      go_simp
      refine hK.out _ _ ?_ (fun hHeld2 => ?_)
      · (try dsimp only); (try trivial)
      clear hK K hHeld
      have hHeld := hHeld2
      clear hHeld2
      try simp only [Act.put, List.setIfInBounds_toArray, List.set_cons_zero, List.set_cons_succ]
      refine wpAnyH_ready (rs := [8]) (by kernel_rfl) (by simp) ?_
      refine AllReadyH.cons (o := { dst := some 20, op := Go.Op.load 39 (Go.Operand.tmp 19), type := 39, pos := "editor.go:69", after := #[{ on := 7, ground := Go.Ground.data }], guard := none }) rfl (fun K hK => ?_) AllReadyH.nil
      go_simp
      refine hK.out _ _ ?_ (fun hHeld2 => ?_)
      · (try dsimp only); (try trivial)
      clear hK K hHeld
      have hHeld := hHeld2
      clear hHeld2
      try simp only [Act.put, List.setIfInBounds_toArray, List.set_cons_zero, List.set_cons_succ]
      refine wpAnyH_take (i := 9) (oi := { dst := some 21, op := Go.Op.call { callee := Go.Callee.builtin Go.Builtin.len, args := #[Go.Operand.tmp 20], argTypes := #[39] }, type := 3, pos := "editor.go:69", after := #[{ on := 8, ground := Go.Ground.data }], guard := none }) (v := ?v25) rfl (by kernel_rfl) (by kernel_rfl) (by kernel_rfl) (fun _ _ _ h => h) (Or.inl ⟨by rfl, ?hy25⟩) (by assumption) ?rest25
      case hy25 => (intro w hSw; (try dsimp only at hSw); go_simp <;> with_reducible rfl)
      try simp only [Act.put, List.setIfInBounds_toArray, List.set_cons_zero, List.set_cons_succ]
      refine wpAnyH_take (i := 10) (oi := { dst := some 22, op := Go.Op.call { callee := Go.Callee.builtin Go.Builtin.min, args := #[Go.Operand.const (Go.Value.int Go.IntKind.i64 1), Go.Operand.tmp 21], argTypes := #[3, 3] }, type := 3, pos := "editor.go:69", after := #[{ on := 9, ground := Go.Ground.data }], guard := none }) (v := ?v26) rfl (by kernel_rfl) (by kernel_rfl) (by kernel_rfl) (fun _ _ _ h => h) (Or.inl ⟨by rfl, ?hy26⟩) (by assumption) ?rest26
      case hy26 => (intro w hSw; (try dsimp only at hSw); go_simp <;> with_reducible rfl)
      try simp only [Act.put, List.setIfInBounds_toArray, List.set_cons_zero, List.set_cons_succ]
      refine wpAnyH_take (i := 11) (oi := { dst := some 23, op := Go.Op.slice 39 (Go.Operand.tmp 16) (some (Go.Operand.tmp 22)) none none, type := 39, pos := "editor.go:69", after := #[{ on := 4, ground := Go.Ground.data }, { on := 10, ground := Go.Ground.data }], guard := none }) (v := ?v27) rfl (by kernel_rfl) (by kernel_rfl) (by kernel_rfl) (fun _ _ _ h => h) (Or.inl ⟨by rfl, ?hy27⟩) (by assumption) ?rest27
      case hy27 => (intro w hSw; (try dsimp only at hSw); go_simp <;> with_reducible rfl)
      try simp only [Act.put, List.setIfInBounds_toArray, List.set_cons_zero, List.set_cons_succ]
      refine wpAnyH_take (i := 12) (oi := { dst := some 24, op := Go.Op.nilCheck (Go.Operand.tmp 12), type := 0, pos := "editor.go:69", after := #[{ on := 0, ground := Go.Ground.data }, { on := 0, ground := Go.Ground.phase }, { on := 1, ground := Go.Ground.phase }, { on := 2, ground := Go.Ground.phase }, { on := 3, ground := Go.Ground.phase }, { on := 4, ground := Go.Ground.phase }, { on := 5, ground := Go.Ground.phase }, { on := 6, ground := Go.Ground.phase }, { on := 7, ground := Go.Ground.phase }, { on := 8, ground := Go.Ground.phase }, { on := 9, ground := Go.Ground.phase }, { on := 10, ground := Go.Ground.phase }, { on := 11, ground := Go.Ground.phase }], guard := none }) (v := ?v28) rfl (by kernel_rfl) (by kernel_rfl) (by kernel_rfl) (fun _ _ _ h => h) (Or.inl ⟨by rfl, ?hy28⟩) (by assumption) ?rest28
      case hy28 => (intro w hSw; (try dsimp only at hSw); go_simp <;> with_reducible rfl)
      try simp only [Act.put, List.setIfInBounds_toArray, List.set_cons_zero, List.set_cons_succ]
      refine wpAnyH_take (i := 13) (oi := { dst := some 25, op := Go.Op.fieldAddr 41 (Go.Operand.tmp 24) 1, type := 0, pos := "editor.go:69", after := #[{ on := 12, ground := Go.Ground.data }, { on := 0, ground := Go.Ground.phase }, { on := 1, ground := Go.Ground.phase }, { on := 2, ground := Go.Ground.phase }, { on := 3, ground := Go.Ground.phase }, { on := 4, ground := Go.Ground.phase }, { on := 5, ground := Go.Ground.phase }, { on := 6, ground := Go.Ground.phase }, { on := 7, ground := Go.Ground.phase }, { on := 8, ground := Go.Ground.phase }, { on := 9, ground := Go.Ground.phase }, { on := 10, ground := Go.Ground.phase }, { on := 11, ground := Go.Ground.phase }], guard := none }) (v := ?v29) rfl (by kernel_rfl) (by kernel_rfl) (by kernel_rfl) (fun _ _ _ h => h) (Or.inl ⟨by rfl, ?hy29⟩) (by assumption) ?rest29
      case hy29 => (intro w hSw; (try dsimp only at hSw); go_simp <;> with_reducible rfl)
      try simp only [Act.put, List.setIfInBounds_toArray, List.set_cons_zero, List.set_cons_succ]
      refine wpAnyH_ready (rs := [14]) (by kernel_rfl) (by simp) ?_
      refine AllReadyH.cons (o := { dst := none, op := Go.Op.store 39 (Go.Operand.tmp 25) (Go.Operand.tmp 23), type := 0, pos := "editor.go:69", after := #[{ on := 13, ground := Go.Ground.data }, { on := 11, ground := Go.Ground.data }, { on := 0, ground := Go.Ground.phase }, { on := 1, ground := Go.Ground.phase }, { on := 2, ground := Go.Ground.phase }, { on := 3, ground := Go.Ground.phase }, { on := 4, ground := Go.Ground.phase }, { on := 5, ground := Go.Ground.phase }, { on := 6, ground := Go.Ground.phase }, { on := 7, ground := Go.Ground.phase }, { on := 8, ground := Go.Ground.phase }, { on := 9, ground := Go.Ground.phase }, { on := 10, ground := Go.Ground.phase }, { on := 11, ground := Go.Ground.phase }], guard := none }) rfl (fun K hK => ?_) AllReadyH.nil
      go_simp
      refine hK.out _ _ ?_ (fun hHeld2 => ?_)
      · (try dsimp only); (try trivial)
      clear hK K hHeld
      have hHeld := hHeld2
      clear hHeld2
      try simp only [Act.put, List.setIfInBounds_toArray, List.set_cons_zero, List.set_cons_succ]
      refine wpAnyH_done (by kernel_rfl) ?_ _
      refine NoPanic.normal ?_
      go_wp2
      (try go_end0)
      exact ⟨rfl, LineP.mk (Line.set1 hBD haD hf h1 h2 h3 h4) (((Below.refl base w).drew).setCell (p := ⟨Lb, 1, none⟩) h4 _) (hgoal.out)⟩
    refine AllReadyH.cons (o := { dst := some 20, op := Go.Op.load 39 (Go.Operand.tmp 19), type := 39, pos := "editor.go:69", after := #[{ on := 7, ground := Go.Ground.data }], guard := none }) rfl (fun K hK => ?_) ?_
    ·
      go_simp
      refine hK.out _ _ ?_ (fun hHeld2 => ?_)
      · (try dsimp only); (try trivial)
      clear hK K hHeld
      have hHeld := hHeld2
      clear hHeld2
      try simp only [Act.put, List.setIfInBounds_toArray, List.set_cons_zero, List.set_cons_succ]
      refine wpAnyH_take (i := 9) (oi := { dst := some 21, op := Go.Op.call { callee := Go.Callee.builtin Go.Builtin.len, args := #[Go.Operand.tmp 20], argTypes := #[39] }, type := 3, pos := "editor.go:69", after := #[{ on := 8, ground := Go.Ground.data }], guard := none }) (v := ?v30) rfl (by kernel_rfl) (by kernel_rfl) (by kernel_rfl) (fun _ _ _ h => h) (Or.inl ⟨by rfl, ?hy30⟩) (by assumption) ?rest30
      case hy30 => (intro w hSw; (try dsimp only at hSw); go_simp <;> with_reducible rfl)
      try simp only [Act.put, List.setIfInBounds_toArray, List.set_cons_zero, List.set_cons_succ]
      refine wpAnyH_take (i := 10) (oi := { dst := some 22, op := Go.Op.call { callee := Go.Callee.builtin Go.Builtin.min, args := #[Go.Operand.const (Go.Value.int Go.IntKind.i64 1), Go.Operand.tmp 21], argTypes := #[3, 3] }, type := 3, pos := "editor.go:69", after := #[{ on := 9, ground := Go.Ground.data }], guard := none }) (v := ?v31) rfl (by kernel_rfl) (by kernel_rfl) (by kernel_rfl) (fun _ _ _ h => h) (Or.inl ⟨by rfl, ?hy31⟩) (by assumption) ?rest31
      case hy31 => (intro w hSw; (try dsimp only at hSw); go_simp <;> with_reducible rfl)
      try simp only [Act.put, List.setIfInBounds_toArray, List.set_cons_zero, List.set_cons_succ]
      refine wpAnyH_ready (rs := [4]) (by kernel_rfl) (by simp) ?_
      refine AllReadyH.cons (o := { dst := some 16, op := Go.Op.load 39 (Go.Operand.tmp 15), type := 39, pos := "editor.go:69", after := #[{ on := 3, ground := Go.Ground.data }], guard := none }) rfl (fun K hK => ?_) AllReadyH.nil
      go_simp
      refine hK.out _ _ ?_ (fun hHeld2 => ?_)
      · (try dsimp only); (try trivial)
      clear hK K hHeld
      have hHeld := hHeld2
      clear hHeld2
      try simp only [Act.put, List.setIfInBounds_toArray, List.set_cons_zero, List.set_cons_succ]
      refine wpAnyH_take (i := 11) (oi := { dst := some 23, op := Go.Op.slice 39 (Go.Operand.tmp 16) (some (Go.Operand.tmp 22)) none none, type := 39, pos := "editor.go:69", after := #[{ on := 4, ground := Go.Ground.data }, { on := 10, ground := Go.Ground.data }], guard := none }) (v := ?v32) rfl (by kernel_rfl) (by kernel_rfl) (by kernel_rfl) (fun _ _ _ h => h) (Or.inl ⟨by rfl, ?hy32⟩) (by assumption) ?rest32
      case hy32 => (intro w hSw; (try dsimp only at hSw); go_simp <;> with_reducible rfl)
      try simp only [Act.put, List.setIfInBounds_toArray, List.set_cons_zero, List.set_cons_succ]
      refine wpAnyH_take (i := 12) (oi := { dst := some 24, op := Go.Op.nilCheck (Go.Operand.tmp 12), type := 0, pos := "editor.go:69", after := #[{ on := 0, ground := Go.Ground.data }, { on := 0, ground := Go.Ground.phase }, { on := 1, ground := Go.Ground.phase }, { on := 2, ground := Go.Ground.phase }, { on := 3, ground := Go.Ground.phase }, { on := 4, ground := Go.Ground.phase }, { on := 5, ground := Go.Ground.phase }, { on := 6, ground := Go.Ground.phase }, { on := 7, ground := Go.Ground.phase }, { on := 8, ground := Go.Ground.phase }, { on := 9, ground := Go.Ground.phase }, { on := 10, ground := Go.Ground.phase }, { on := 11, ground := Go.Ground.phase }], guard := none }) (v := ?v33) rfl (by kernel_rfl) (by kernel_rfl) (by kernel_rfl) (fun _ _ _ h => h) (Or.inl ⟨by rfl, ?hy33⟩) (by assumption) ?rest33
      case hy33 => (intro w hSw; (try dsimp only at hSw); go_simp <;> with_reducible rfl)
      try simp only [Act.put, List.setIfInBounds_toArray, List.set_cons_zero, List.set_cons_succ]
      refine wpAnyH_take (i := 13) (oi := { dst := some 25, op := Go.Op.fieldAddr 41 (Go.Operand.tmp 24) 1, type := 0, pos := "editor.go:69", after := #[{ on := 12, ground := Go.Ground.data }, { on := 0, ground := Go.Ground.phase }, { on := 1, ground := Go.Ground.phase }, { on := 2, ground := Go.Ground.phase }, { on := 3, ground := Go.Ground.phase }, { on := 4, ground := Go.Ground.phase }, { on := 5, ground := Go.Ground.phase }, { on := 6, ground := Go.Ground.phase }, { on := 7, ground := Go.Ground.phase }, { on := 8, ground := Go.Ground.phase }, { on := 9, ground := Go.Ground.phase }, { on := 10, ground := Go.Ground.phase }, { on := 11, ground := Go.Ground.phase }], guard := none }) (v := ?v34) rfl (by kernel_rfl) (by kernel_rfl) (by kernel_rfl) (fun _ _ _ h => h) (Or.inl ⟨by rfl, ?hy34⟩) (by assumption) ?rest34
      case hy34 => (intro w hSw; (try dsimp only at hSw); go_simp <;> with_reducible rfl)
      try simp only [Act.put, List.setIfInBounds_toArray, List.set_cons_zero, List.set_cons_succ]
      refine wpAnyH_ready (rs := [14]) (by kernel_rfl) (by simp) ?_
      refine AllReadyH.cons (o := { dst := none, op := Go.Op.store 39 (Go.Operand.tmp 25) (Go.Operand.tmp 23), type := 0, pos := "editor.go:69", after := #[{ on := 13, ground := Go.Ground.data }, { on := 11, ground := Go.Ground.data }, { on := 0, ground := Go.Ground.phase }, { on := 1, ground := Go.Ground.phase }, { on := 2, ground := Go.Ground.phase }, { on := 3, ground := Go.Ground.phase }, { on := 4, ground := Go.Ground.phase }, { on := 5, ground := Go.Ground.phase }, { on := 6, ground := Go.Ground.phase }, { on := 7, ground := Go.Ground.phase }, { on := 8, ground := Go.Ground.phase }, { on := 9, ground := Go.Ground.phase }, { on := 10, ground := Go.Ground.phase }, { on := 11, ground := Go.Ground.phase }], guard := none }) rfl (fun K hK => ?_) AllReadyH.nil
      go_simp
      refine hK.out _ _ ?_ (fun hHeld2 => ?_)
      · (try dsimp only); (try trivial)
      clear hK K hHeld
      have hHeld := hHeld2
      clear hHeld2
      try simp only [Act.put, List.setIfInBounds_toArray, List.set_cons_zero, List.set_cons_succ]
      refine wpAnyH_done (by kernel_rfl) ?_ _
      refine NoPanic.normal ?_
      go_wp2
      (try go_end0)
      exact ⟨rfl, LineP.mk (Line.set1 hBD haD hf h1 h2 h3 h4) (((Below.refl base w).drew).setCell (p := ⟨Lb, 1, none⟩) h4 _) (hgoal.out)⟩
    exact AllReadyH.nil
  · rw [if_neg hcm] at hf
    go_enter Try.func17, Try.ntmps17
    go_upto_region 5 with fail
    refine wp_region_noPanic ?_
    refine wp_region_held_drew (S := (fun _ => True)) (by kernel_rfl) ?_ (fun hHeld => ?_)
    · (try dsimp only); (try trivial)
    refine wpAnyH_take (i := 0) (oi := { dst := some 12, op := Go.Op.move (Go.Operand.tmp 0), type := 36, pos := "editor.go:69", after := #[], guard := none }) (v := ?v35) rfl (by kernel_rfl) (by kernel_rfl) (by kernel_rfl) (fun _ _ _ h => h) (Or.inl ⟨by rfl, ?hy35⟩) (by assumption) ?rest35
    case hy35 => (intro w hSw; (try dsimp only at hSw); go_simp <;> with_reducible rfl)
    try simp only [Act.put, List.setIfInBounds_toArray, List.set_cons_zero, List.set_cons_succ]
    refine wpAnyH_take (i := 1) (oi := { dst := some 13, op := Go.Op.move (Go.Operand.tmp 0), type := 36, pos := "editor.go:69", after := #[], guard := none }) (v := ?v36) rfl (by kernel_rfl) (by kernel_rfl) (by kernel_rfl) (fun _ _ _ h => h) (Or.inl ⟨by rfl, ?hy36⟩) (by assumption) ?rest36
    case hy36 => (intro w hSw; (try dsimp only at hSw); go_simp <;> with_reducible rfl)
    try simp only [Act.put, List.setIfInBounds_toArray, List.set_cons_zero, List.set_cons_succ]
    refine wpAnyH_take (i := 2) (oi := { dst := some 14, op := Go.Op.nilCheck (Go.Operand.tmp 13), type := 0, pos := "editor.go:69", after := #[{ on := 1, ground := Go.Ground.data }], guard := none }) (v := ?v37) rfl (by kernel_rfl) (by kernel_rfl) (by kernel_rfl) (fun _ _ _ h => h) (Or.inl ⟨by rfl, ?hy37⟩) (by assumption) ?rest37
    case hy37 => (intro w hSw; (try dsimp only at hSw); go_simp <;> with_reducible rfl)
    try simp only [Act.put, List.setIfInBounds_toArray, List.set_cons_zero, List.set_cons_succ]
    refine wpAnyH_take (i := 3) (oi := { dst := some 15, op := Go.Op.fieldAddr 41 (Go.Operand.tmp 14) 1, type := 0, pos := "editor.go:69", after := #[{ on := 2, ground := Go.Ground.data }], guard := none }) (v := ?v38) rfl (by kernel_rfl) (by kernel_rfl) (by kernel_rfl) (fun _ _ _ h => h) (Or.inl ⟨by rfl, ?hy38⟩) (by assumption) ?rest38
    case hy38 => (intro w hSw; (try dsimp only at hSw); go_simp <;> with_reducible rfl)
    try simp only [Act.put, List.setIfInBounds_toArray, List.set_cons_zero, List.set_cons_succ]
    refine wpAnyH_take (i := 5) (oi := { dst := some 17, op := Go.Op.move (Go.Operand.tmp 0), type := 36, pos := "editor.go:69", after := #[], guard := none }) (v := ?v39) rfl (by kernel_rfl) (by kernel_rfl) (by kernel_rfl) (fun _ _ _ h => h) (Or.inl ⟨by rfl, ?hy39⟩) (by assumption) ?rest39
    case hy39 => (intro w hSw; (try dsimp only at hSw); go_simp <;> with_reducible rfl)
    try simp only [Act.put, List.setIfInBounds_toArray, List.set_cons_zero, List.set_cons_succ]
    refine wpAnyH_take (i := 6) (oi := { dst := some 18, op := Go.Op.nilCheck (Go.Operand.tmp 17), type := 0, pos := "editor.go:69", after := #[{ on := 5, ground := Go.Ground.data }], guard := none }) (v := ?v40) rfl (by kernel_rfl) (by kernel_rfl) (by kernel_rfl) (fun _ _ _ h => h) (Or.inl ⟨by rfl, ?hy40⟩) (by assumption) ?rest40
    case hy40 => (intro w hSw; (try dsimp only at hSw); go_simp <;> with_reducible rfl)
    try simp only [Act.put, List.setIfInBounds_toArray, List.set_cons_zero, List.set_cons_succ]
    refine wpAnyH_take (i := 7) (oi := { dst := some 19, op := Go.Op.fieldAddr 41 (Go.Operand.tmp 18) 1, type := 0, pos := "editor.go:69", after := #[{ on := 6, ground := Go.Ground.data }], guard := none }) (v := ?v41) rfl (by kernel_rfl) (by kernel_rfl) (by kernel_rfl) (fun _ _ _ h => h) (Or.inl ⟨by rfl, ?hy41⟩) (by assumption) ?rest41
    case hy41 => (intro w hSw; (try dsimp only at hSw); go_simp <;> with_reducible rfl)
    try simp only [Act.put, List.setIfInBounds_toArray, List.set_cons_zero, List.set_cons_succ]
    refine wpAnyH_ready (rs := [4, 8]) (by kernel_rfl) (by simp) ?_
    refine AllReadyH.cons (o := { dst := some 16, op := Go.Op.load 39 (Go.Operand.tmp 15), type := 39, pos := "editor.go:69", after := #[{ on := 3, ground := Go.Ground.data }], guard := none }) rfl (fun K hK => ?_) ?_
    ·
      go_simp
      refine hK.out _ _ ?_ (fun hHeld2 => ?_)
      · (try dsimp only); (try trivial)
      clear hK K hHeld
      have hHeld := hHeld2
      clear hHeld2
      try simp only [Act.put, List.setIfInBounds_toArray, List.set_cons_zero, List.set_cons_succ]
      refine wpAnyH_ready (rs := [8]) (by kernel_rfl) (by simp) ?_
      refine AllReadyH.cons (o := { dst := some 20, op := Go.Op.load 39 (Go.Operand.tmp 19), type := 39, pos := "editor.go:69", after := #[{ on := 7, ground := Go.Ground.data }], guard := none }) rfl (fun K hK => ?_) AllReadyH.nil
      go_simp
      refine hK.out _ _ ?_ (fun hHeld2 => ?_)
      · (try dsimp only); (try trivial)
      clear hK K hHeld
      have hHeld := hHeld2
      clear hHeld2
      try simp only [Act.put, List.setIfInBounds_toArray, List.set_cons_zero, List.set_cons_succ]
      refine wpAnyH_take (i := 9) (oi := { dst := some 21, op := Go.Op.call { callee := Go.Callee.builtin Go.Builtin.len, args := #[Go.Operand.tmp 20], argTypes := #[39] }, type := 3, pos := "editor.go:69", after := #[{ on := 8, ground := Go.Ground.data }], guard := none }) (v := ?v42) rfl (by kernel_rfl) (by kernel_rfl) (by kernel_rfl) (fun _ _ _ h => h) (Or.inl ⟨by rfl, ?hy42⟩) (by assumption) ?rest42
      case hy42 => (intro w hSw; (try dsimp only at hSw); go_simp <;> with_reducible rfl)
      try simp only [Act.put, List.setIfInBounds_toArray, List.set_cons_zero, List.set_cons_succ]
      refine wpAnyH_take (i := 10) (oi := { dst := some 22, op := Go.Op.call { callee := Go.Callee.builtin Go.Builtin.min, args := #[Go.Operand.const (Go.Value.int Go.IntKind.i64 1), Go.Operand.tmp 21], argTypes := #[3, 3] }, type := 3, pos := "editor.go:69", after := #[{ on := 9, ground := Go.Ground.data }], guard := none }) (v := ?v43) rfl (by kernel_rfl) (by kernel_rfl) (by kernel_rfl) (fun _ _ _ h => h) (Or.inl ⟨by rfl, ?hy43⟩) (by assumption) ?rest43
      case hy43 => (intro w hSw; (try dsimp only at hSw); go_simp <;> with_reducible rfl)
      try simp only [Act.put, List.setIfInBounds_toArray, List.set_cons_zero, List.set_cons_succ]
      refine wpAnyH_take (i := 11) (oi := { dst := some 23, op := Go.Op.slice 39 (Go.Operand.tmp 16) (some (Go.Operand.tmp 22)) none none, type := 39, pos := "editor.go:69", after := #[{ on := 4, ground := Go.Ground.data }, { on := 10, ground := Go.Ground.data }], guard := none }) (v := ?v44) rfl (by kernel_rfl) (by kernel_rfl) (by kernel_rfl) (fun _ _ _ h => h) (Or.inl ⟨by rfl, ?hy44⟩) (by assumption) ?rest44
      case hy44 => (intro w hSw; (try dsimp only at hSw); go_simp <;> with_reducible rfl)
      try simp only [Act.put, List.setIfInBounds_toArray, List.set_cons_zero, List.set_cons_succ]
      refine wpAnyH_take (i := 12) (oi := { dst := some 24, op := Go.Op.nilCheck (Go.Operand.tmp 12), type := 0, pos := "editor.go:69", after := #[{ on := 0, ground := Go.Ground.data }, { on := 0, ground := Go.Ground.phase }, { on := 1, ground := Go.Ground.phase }, { on := 2, ground := Go.Ground.phase }, { on := 3, ground := Go.Ground.phase }, { on := 4, ground := Go.Ground.phase }, { on := 5, ground := Go.Ground.phase }, { on := 6, ground := Go.Ground.phase }, { on := 7, ground := Go.Ground.phase }, { on := 8, ground := Go.Ground.phase }, { on := 9, ground := Go.Ground.phase }, { on := 10, ground := Go.Ground.phase }, { on := 11, ground := Go.Ground.phase }], guard := none }) (v := ?v45) rfl (by kernel_rfl) (by kernel_rfl) (by kernel_rfl) (fun _ _ _ h => h) (Or.inl ⟨by rfl, ?hy45⟩) (by assumption) ?rest45
      case hy45 => (intro w hSw; (try dsimp only at hSw); go_simp <;> with_reducible rfl)
      try simp only [Act.put, List.setIfInBounds_toArray, List.set_cons_zero, List.set_cons_succ]
      refine wpAnyH_take (i := 13) (oi := { dst := some 25, op := Go.Op.fieldAddr 41 (Go.Operand.tmp 24) 1, type := 0, pos := "editor.go:69", after := #[{ on := 12, ground := Go.Ground.data }, { on := 0, ground := Go.Ground.phase }, { on := 1, ground := Go.Ground.phase }, { on := 2, ground := Go.Ground.phase }, { on := 3, ground := Go.Ground.phase }, { on := 4, ground := Go.Ground.phase }, { on := 5, ground := Go.Ground.phase }, { on := 6, ground := Go.Ground.phase }, { on := 7, ground := Go.Ground.phase }, { on := 8, ground := Go.Ground.phase }, { on := 9, ground := Go.Ground.phase }, { on := 10, ground := Go.Ground.phase }, { on := 11, ground := Go.Ground.phase }], guard := none }) (v := ?v46) rfl (by kernel_rfl) (by kernel_rfl) (by kernel_rfl) (fun _ _ _ h => h) (Or.inl ⟨by rfl, ?hy46⟩) (by assumption) ?rest46
      case hy46 => (intro w hSw; (try dsimp only at hSw); go_simp <;> with_reducible rfl)
      try simp only [Act.put, List.setIfInBounds_toArray, List.set_cons_zero, List.set_cons_succ]
      refine wpAnyH_ready (rs := [14]) (by kernel_rfl) (by simp) ?_
      refine AllReadyH.cons (o := { dst := none, op := Go.Op.store 39 (Go.Operand.tmp 25) (Go.Operand.tmp 23), type := 0, pos := "editor.go:69", after := #[{ on := 13, ground := Go.Ground.data }, { on := 11, ground := Go.Ground.data }, { on := 0, ground := Go.Ground.phase }, { on := 1, ground := Go.Ground.phase }, { on := 2, ground := Go.Ground.phase }, { on := 3, ground := Go.Ground.phase }, { on := 4, ground := Go.Ground.phase }, { on := 5, ground := Go.Ground.phase }, { on := 6, ground := Go.Ground.phase }, { on := 7, ground := Go.Ground.phase }, { on := 8, ground := Go.Ground.phase }, { on := 9, ground := Go.Ground.phase }, { on := 10, ground := Go.Ground.phase }, { on := 11, ground := Go.Ground.phase }], guard := none }) rfl (fun K hK => ?_) AllReadyH.nil
      go_simp
      refine hK.out _ _ ?_ (fun hHeld2 => ?_)
      · (try dsimp only); (try trivial)
      clear hK K hHeld
      have hHeld := hHeld2
      clear hHeld2
      try simp only [Act.put, List.setIfInBounds_toArray, List.set_cons_zero, List.set_cons_succ]
      refine wpAnyH_done (by kernel_rfl) ?_ _
      refine NoPanic.normal ?_
      go_wp2
      (try go_end0)
      exact ⟨rfl, LineP.mk (Line.set1 hBD haD hf h1 h2 h3 h4) (((Below.refl base w).drew).setCell (p := ⟨Lb, 1, none⟩) h4 _) (hgoal.out)⟩
    refine AllReadyH.cons (o := { dst := some 20, op := Go.Op.load 39 (Go.Operand.tmp 19), type := 39, pos := "editor.go:69", after := #[{ on := 7, ground := Go.Ground.data }], guard := none }) rfl (fun K hK => ?_) ?_
    ·
      go_simp
      refine hK.out _ _ ?_ (fun hHeld2 => ?_)
      · (try dsimp only); (try trivial)
      clear hK K hHeld
      have hHeld := hHeld2
      clear hHeld2
      try simp only [Act.put, List.setIfInBounds_toArray, List.set_cons_zero, List.set_cons_succ]
      refine wpAnyH_take (i := 9) (oi := { dst := some 21, op := Go.Op.call { callee := Go.Callee.builtin Go.Builtin.len, args := #[Go.Operand.tmp 20], argTypes := #[39] }, type := 3, pos := "editor.go:69", after := #[{ on := 8, ground := Go.Ground.data }], guard := none }) (v := ?v47) rfl (by kernel_rfl) (by kernel_rfl) (by kernel_rfl) (fun _ _ _ h => h) (Or.inl ⟨by rfl, ?hy47⟩) (by assumption) ?rest47
      case hy47 => (intro w hSw; (try dsimp only at hSw); go_simp <;> with_reducible rfl)
      try simp only [Act.put, List.setIfInBounds_toArray, List.set_cons_zero, List.set_cons_succ]
      refine wpAnyH_take (i := 10) (oi := { dst := some 22, op := Go.Op.call { callee := Go.Callee.builtin Go.Builtin.min, args := #[Go.Operand.const (Go.Value.int Go.IntKind.i64 1), Go.Operand.tmp 21], argTypes := #[3, 3] }, type := 3, pos := "editor.go:69", after := #[{ on := 9, ground := Go.Ground.data }], guard := none }) (v := ?v48) rfl (by kernel_rfl) (by kernel_rfl) (by kernel_rfl) (fun _ _ _ h => h) (Or.inl ⟨by rfl, ?hy48⟩) (by assumption) ?rest48
      case hy48 => (intro w hSw; (try dsimp only at hSw); go_simp <;> with_reducible rfl)
      try simp only [Act.put, List.setIfInBounds_toArray, List.set_cons_zero, List.set_cons_succ]
      refine wpAnyH_ready (rs := [4]) (by kernel_rfl) (by simp) ?_
      refine AllReadyH.cons (o := { dst := some 16, op := Go.Op.load 39 (Go.Operand.tmp 15), type := 39, pos := "editor.go:69", after := #[{ on := 3, ground := Go.Ground.data }], guard := none }) rfl (fun K hK => ?_) AllReadyH.nil
      go_simp
      refine hK.out _ _ ?_ (fun hHeld2 => ?_)
      · (try dsimp only); (try trivial)
      clear hK K hHeld
      have hHeld := hHeld2
      clear hHeld2
      try simp only [Act.put, List.setIfInBounds_toArray, List.set_cons_zero, List.set_cons_succ]
      refine wpAnyH_take (i := 11) (oi := { dst := some 23, op := Go.Op.slice 39 (Go.Operand.tmp 16) (some (Go.Operand.tmp 22)) none none, type := 39, pos := "editor.go:69", after := #[{ on := 4, ground := Go.Ground.data }, { on := 10, ground := Go.Ground.data }], guard := none }) (v := ?v49) rfl (by kernel_rfl) (by kernel_rfl) (by kernel_rfl) (fun _ _ _ h => h) (Or.inl ⟨by rfl, ?hy49⟩) (by assumption) ?rest49
      case hy49 => (intro w hSw; (try dsimp only at hSw); go_simp <;> with_reducible rfl)
      try simp only [Act.put, List.setIfInBounds_toArray, List.set_cons_zero, List.set_cons_succ]
      refine wpAnyH_take (i := 12) (oi := { dst := some 24, op := Go.Op.nilCheck (Go.Operand.tmp 12), type := 0, pos := "editor.go:69", after := #[{ on := 0, ground := Go.Ground.data }, { on := 0, ground := Go.Ground.phase }, { on := 1, ground := Go.Ground.phase }, { on := 2, ground := Go.Ground.phase }, { on := 3, ground := Go.Ground.phase }, { on := 4, ground := Go.Ground.phase }, { on := 5, ground := Go.Ground.phase }, { on := 6, ground := Go.Ground.phase }, { on := 7, ground := Go.Ground.phase }, { on := 8, ground := Go.Ground.phase }, { on := 9, ground := Go.Ground.phase }, { on := 10, ground := Go.Ground.phase }, { on := 11, ground := Go.Ground.phase }], guard := none }) (v := ?v50) rfl (by kernel_rfl) (by kernel_rfl) (by kernel_rfl) (fun _ _ _ h => h) (Or.inl ⟨by rfl, ?hy50⟩) (by assumption) ?rest50
      case hy50 => (intro w hSw; (try dsimp only at hSw); go_simp <;> with_reducible rfl)
      try simp only [Act.put, List.setIfInBounds_toArray, List.set_cons_zero, List.set_cons_succ]
      refine wpAnyH_take (i := 13) (oi := { dst := some 25, op := Go.Op.fieldAddr 41 (Go.Operand.tmp 24) 1, type := 0, pos := "editor.go:69", after := #[{ on := 12, ground := Go.Ground.data }, { on := 0, ground := Go.Ground.phase }, { on := 1, ground := Go.Ground.phase }, { on := 2, ground := Go.Ground.phase }, { on := 3, ground := Go.Ground.phase }, { on := 4, ground := Go.Ground.phase }, { on := 5, ground := Go.Ground.phase }, { on := 6, ground := Go.Ground.phase }, { on := 7, ground := Go.Ground.phase }, { on := 8, ground := Go.Ground.phase }, { on := 9, ground := Go.Ground.phase }, { on := 10, ground := Go.Ground.phase }, { on := 11, ground := Go.Ground.phase }], guard := none }) (v := ?v51) rfl (by kernel_rfl) (by kernel_rfl) (by kernel_rfl) (fun _ _ _ h => h) (Or.inl ⟨by rfl, ?hy51⟩) (by assumption) ?rest51
      case hy51 => (intro w hSw; (try dsimp only at hSw); go_simp <;> with_reducible rfl)
      try simp only [Act.put, List.setIfInBounds_toArray, List.set_cons_zero, List.set_cons_succ]
      refine wpAnyH_ready (rs := [14]) (by kernel_rfl) (by simp) ?_
      refine AllReadyH.cons (o := { dst := none, op := Go.Op.store 39 (Go.Operand.tmp 25) (Go.Operand.tmp 23), type := 0, pos := "editor.go:69", after := #[{ on := 13, ground := Go.Ground.data }, { on := 11, ground := Go.Ground.data }, { on := 0, ground := Go.Ground.phase }, { on := 1, ground := Go.Ground.phase }, { on := 2, ground := Go.Ground.phase }, { on := 3, ground := Go.Ground.phase }, { on := 4, ground := Go.Ground.phase }, { on := 5, ground := Go.Ground.phase }, { on := 6, ground := Go.Ground.phase }, { on := 7, ground := Go.Ground.phase }, { on := 8, ground := Go.Ground.phase }, { on := 9, ground := Go.Ground.phase }, { on := 10, ground := Go.Ground.phase }, { on := 11, ground := Go.Ground.phase }], guard := none }) rfl (fun K hK => ?_) AllReadyH.nil
      go_simp
      refine hK.out _ _ ?_ (fun hHeld2 => ?_)
      · (try dsimp only); (try trivial)
      clear hK K hHeld
      have hHeld := hHeld2
      clear hHeld2
      try simp only [Act.put, List.setIfInBounds_toArray, List.set_cons_zero, List.set_cons_succ]
      refine wpAnyH_done (by kernel_rfl) ?_ _
      refine NoPanic.normal ?_
      go_wp2
      (try go_end0)
      exact ⟨rfl, LineP.mk (Line.set1 hBD haD hf h1 h2 h3 h4) (((Below.refl base w).drew).setCell (p := ⟨Lb, 1, none⟩) h4 _) (hgoal.out)⟩
    exact AllReadyH.nil
set_option maxHeartbeats 800000 in
theorem wKey_else (w : World) (base Lb : Nat) (A Z : List UInt8) (va vz : Value) (h : LineV w base Lb va vz A Z) (hA : A.length + Z.length ≤ 5000) (c : Int) (n8 : ¬ c = 8) (n127 : ¬ c = 127) (n4 : ¬ c = 4) (n2 : ¬ c = 2) (n6 : ¬ c = 6) (n1 : ¬ c = 1) (n5 : ¬ c = 5) (n11 : ¬ c = 11) (n21 : ¬ c = 21) (n23 : ¬ c = 23) (n20 : ¬ c = 20) :
    Calls Try.prog 17 #[.pointer (some ⟨Lb, 0, none⟩), .int .u8 c] w fun e w' => e = .returned (.tuple #[]) ∧ LineP w w' base Lb (keyL c A Z) := by
  have hgoal := Lib.hid (show keyL c A Z = (A, Z) by unfold keyL; simp [n8, n127, n4, n2, n6, n1, n5, n11, n21, n23, n20])
  have h0 := Lib.hid h
  clear h hA
  have m8 : (c == 8) = false := beq_eq_false_iff_ne.2 n8
  have m127 : (c == 127) = false := beq_eq_false_iff_ne.2 n127
  have m4 : (c == 4) = false := beq_eq_false_iff_ne.2 n4
  have m2 : (c == 2) = false := beq_eq_false_iff_ne.2 n2
  have m6 : (c == 6) = false := beq_eq_false_iff_ne.2 n6
  have m1 : (c == 1) = false := beq_eq_false_iff_ne.2 n1
  have m5 : (c == 5) = false := beq_eq_false_iff_ne.2 n5
  have m11 : (c == 11) = false := beq_eq_false_iff_ne.2 n11
  have m21 : (c == 21) = false := beq_eq_false_iff_ne.2 n21
  have m23 : (c == 23) = false := beq_eq_false_iff_ne.2 n23
  have m20 : (c == 20) = false := beq_eq_false_iff_ne.2 n20
  go_enter Try.func17, Try.ntmps17
  go_wp2
  (try go_end0)
  exact ⟨rfl, LineP.mk h0.out (Below.refl _ _) hgoal.out⟩
theorem wKey (w : World) (base Lb : Nat) (A Z : List UInt8) (va vz : Value) (h : LineV w base Lb va vz A Z) (hA : A.length + Z.length ≤ 5000)  (c : Int) :
    Calls Try.prog 17 #[.pointer (some ⟨Lb, 0, none⟩), .int .u8 c] w fun e w' => e = .returned (.tuple #[]) ∧ LineP w w' base Lb (keyL c A Z) := by
  by_cases n8 : c = 8
  · subst n8; exact wKey_8 w base Lb A Z va vz h hA
  by_cases n127 : c = 127
  · subst n127; exact wKey_127 w base Lb A Z va vz h hA
  by_cases n4 : c = 4
  · subst n4; exact wKey_4 w base Lb A Z va vz h hA
  by_cases n2 : c = 2
  · subst n2; exact wKey_2 w base Lb A Z va vz h hA
  by_cases n6 : c = 6
  · subst n6; exact wKey_6 w base Lb A Z va vz h hA
  by_cases n1 : c = 1
  · subst n1; exact wKey_1 w base Lb A Z va vz h hA
  by_cases n5 : c = 5
  · subst n5; exact wKey_5 w base Lb A Z va vz h hA
  by_cases n11 : c = 11
  · subst n11; exact wKey_11 w base Lb A Z va vz h hA
  by_cases n21 : c = 21
  · subst n21; exact wKey_21 w base Lb A Z va vz h hA
  by_cases n23 : c = 23
  · subst n23; exact wKey_23 w base Lb A Z va vz h hA
  by_cases n20 : c = 20
  · subst n20; exact wKey_20 w base Lb A Z va vz h hA
  exact wKey_else w base Lb A Z va vz h hA c n8 n127 n4 n2 n6 n1 n5 n11 n21 n23 n20
end Go.Proofs.Ytfmlbnkmckkjnaa
