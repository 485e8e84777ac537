/- How many bits are set: by bytes. -/
import Derived.Test.YtekfceolignihaaDoorS10
import Derived.Laws.Bits128
namespace Go.Proofs.YtekfceolignihaaDoor
open Go.RowKit
set_option linter.unusedVariables false
set_option linter.unusedSimpArgs false

/-- How many of p below m. -/
def cnt (p : Nat → Bool) : Nat → Nat
  | 0 => 0
  | m + 1 => cnt p m + if p m then 1 else 0
theorem cnt_le (p : Nat → Bool) : ∀ m, cnt p m ≤ m
  | 0 => Nat.le_refl _
  | m + 1 => by have := cnt_le p m; rw [cnt]; split <;> omega
theorem cnt_congr {p q : Nat → Bool} : ∀ m, (∀ j, j < m → p j = q j) → cnt p m = cnt q m
  | 0, _ => rfl
  | m + 1, h => by rw [cnt, cnt, cnt_congr m (fun j hj => h j (by omega)), h m (by omega)]
theorem cnt_add (p : Nat → Bool) (a : Nat) : ∀ b, cnt p (a + b) = cnt p a + cnt (fun j => p (a + j)) b
  | 0 => by simp [cnt]
  | b + 1 => by rw [← Nat.add_assoc, cnt, cnt_add p a b, cnt]; omega
/-- A number out of its bytes. -/
def val : List Nat → Nat
  | [] => 0
  | t :: l => t + 256 * val l
def small (l : List Nat) : Prop := ∀ t ∈ l, t < 256
theorem bit_val (t v j : Nat) (h : t < 256) : (t + 256 * v).testBit j = if j < 8 then t.testBit j else v.testBit (j - 8) := by
  have := Nat.testBit_two_pow_mul_add v (b := t) (i := 8) h j
  rw [show t + 256 * v = 2 ^ 8 * v + t by omega]
  exact this
theorem and_val (t b v w : Nat) (ht : t < 256) (hb : b < 256) : (t + 256 * v) &&& (b + 256 * w) = (t &&& b) + 256 * (v &&& w) := by
  have hl : t &&& b < 256 := Nat.lt_of_le_of_lt Nat.and_le_left ht
  apply Nat.eq_of_testBit_eq
  intro j
  rw [Nat.testBit_and, bit_val t v j ht, bit_val b w j hb, bit_val _ _ j hl]
  split <;> rw [Nat.testBit_and]
def mask (b : Nat) : Nat → Nat
  | 0 => 0
  | n + 1 => b + 256 * mask b n
def h0 (t : Nat) : Nat := (t / 2 &&& 0x55) + (t &&& 0x55)
def h1 (u : Nat) : Nat := (u / 4 &&& 0x33) + (u &&& 0x33)
def h2 (u : Nat) : Nat := (u / 16 + u) % 16
theorem q0 : ∀ t : Fin 256, ∀ r : Fin 2, (t.1 / 2 + 128 * r.1) &&& 0x55 = t.1 / 2 &&& 0x55 := by decide +kernel
theorem q1 : ∀ t : Fin 256, ∀ r : Fin 4, (t.1 / 4 + 64 * r.1) &&& 0x33 = t.1 / 4 &&& 0x33 := by decide +kernel
theorem q2 : ∀ t : Fin 256, h0 t.1 < 256 ∧ h1 (h0 t.1) % 16 ≤ 4 ∧ h1 (h0 t.1) / 16 ≤ 4 ∧ h1 (h0 t.1) < 256 ∧ h2 (h1 (h0 t.1)) = cnt t.1.testBit 8 ∧ cnt t.1.testBit 8 ≤ 8 := by decide +kernel
theorem stepA : ∀ l : List Nat, small l → ((val l) / 2 &&& mask 0x55 l.length) + (val l &&& mask 0x55 l.length) = val (l.map h0)
  | [], _ => by simp [val, mask]
  | t :: l, h => by
    have ih := stepA l (fun x hx => h x (List.mem_cons_of_mem _ hx))
    have ht := h t (List.mem_cons_self ..)
    have hr : val l % 2 < 2 := Nat.mod_lt _ (by omega)
    have e : (t + 256 * val l) / 2 = (t / 2 + 128 * (val l % 2)) + 256 * (val l / 2) := by omega
    have e2 : (t / 2 + 128 * (val l % 2)) &&& 0x55 = t / 2 &&& 0x55 := q0 ⟨t, ht⟩ ⟨val l % 2, hr⟩
    show ((t + 256 * val l) / 2 &&& (0x55 + 256 * mask 0x55 l.length)) + ((t + 256 * val l) &&& (0x55 + 256 * mask 0x55 l.length)) = h0 t + 256 * val (l.map h0)
    rw [e, and_val _ _ _ _ (by omega) (by omega), and_val _ _ _ _ ht (by omega), e2, ← ih]
    unfold h0
    omega
theorem stepB : ∀ l : List Nat, small l → ((val l) / 4 &&& mask 0x33 l.length) + (val l &&& mask 0x33 l.length) = val (l.map h1)
  | [], _ => by simp [val, mask]
  | t :: l, h => by
    have ih := stepB l (fun x hx => h x (List.mem_cons_of_mem _ hx))
    have ht := h t (List.mem_cons_self ..)
    have hr : val l % 4 < 4 := Nat.mod_lt _ (by omega)
    have e : (t + 256 * val l) / 4 = (t / 4 + 64 * (val l % 4)) + 256 * (val l / 4) := by omega
    have e2 : (t / 4 + 64 * (val l % 4)) &&& 0x33 = t / 4 &&& 0x33 := q1 ⟨t, ht⟩ ⟨val l % 4, hr⟩
    show ((t + 256 * val l) / 4 &&& (0x33 + 256 * mask 0x33 l.length)) + ((t + 256 * val l) &&& (0x33 + 256 * mask 0x33 l.length)) = h1 t + 256 * val (l.map h1)
    rw [e, and_val _ _ _ _ (by omega) (by omega), and_val _ _ _ _ ht (by omega), e2, ← ih]
    unfold h1
    omega
def nib (l : List Nat) : Prop := ∀ u ∈ l, u % 16 ≤ 4 ∧ u / 16 ≤ 4
theorem nib_low : ∀ l : List Nat, nib l → val l % 16 ≤ 4
  | [], _ => by simp [val]
  | u :: l, h => by
    have := (h u (List.mem_cons_self ..)).1
    show (u + 256 * val l) % 16 ≤ 4
    omega
theorem stepC : ∀ l : List Nat, nib l → ((val l) / 16 + val l) &&& mask 0x0f l.length = val (l.map h2)
  | [], _ => by simp [val, mask]
  | u :: l, h => by
    have hl : nib l := fun x hx => h x (List.mem_cons_of_mem _ hx)
    have ih := stepC l hl
    have hv := nib_low l hl
    obtain ⟨a1, a2⟩ := h u (List.mem_cons_self ..)
    have e : (u + 256 * val l) / 16 + (u + 256 * val l) = (u / 16 + 16 * (val l % 16) + u) + 256 * (val l / 16 + val l) := by omega
    show ((u + 256 * val l) / 16 + (u + 256 * val l)) &&& (0x0f + 256 * mask 0x0f l.length) = h2 u + 256 * val (l.map h2)
    rw [e, and_val _ _ _ _ (by omega) (by omega), ih, show (0x0f : Nat) = 2 ^ 4 - 1 from rfl, Nat.and_two_pow_sub_one_eq_mod]
    unfold h2
    omega
theorem cnt_val : ∀ l : List Nat, small l → cnt (val l).testBit (8 * l.length) = (l.map fun t => cnt t.testBit 8).sum
  | [], _ => rfl
  | t :: l, h => by
    have ih := cnt_val l (fun x hx => h x (List.mem_cons_of_mem _ hx))
    have ht := h t (List.mem_cons_self ..)
    rw [List.length_cons, Nat.mul_succ, Nat.add_comm, cnt_add, List.map_cons, List.sum_cons, ← ih]
    congr 1
    · exact cnt_congr 8 (fun j hj => by show (t + 256 * val l).testBit j = _; rw [bit_val t _ j ht, if_pos hj])
    · exact cnt_congr _ (fun j hj => by show (t + 256 * val l).testBit (8 + j) = _; rw [bit_val t _ _ ht, if_neg (by omega), Nat.add_sub_cancel_left])
theorem maskA : mask 0x55 8 = 6148914691236517205 := by decide
theorem maskB : mask 0x33 8 = 3689348814741910323 := by decide
theorem maskC : mask 0x0f 8 = 1085102592571150095 := by decide
/-- The eight bytes of a number. -/
def bytes8 (x : Nat) : List Nat := [x % 256, x / 256 % 256, x / 65536 % 256, x / 16777216 % 256, x / 4294967296 % 256, x / 1099511627776 % 256, x / 281474976710656 % 256, x / 72057594037927936 % 256]
theorem bytes8_val (x : Nat) (hx : x < 18446744073709551616) : val (bytes8 x) = x := by
  simp only [bytes8, val]
  omega
theorem bytes8_small (x : Nat) : small (bytes8 x) := by
  intro t ht
  simp only [bytes8, List.mem_cons, List.not_mem_nil, or_false] at ht
  rcases ht with rfl | rfl | rfl | rfl | rfl | rfl | rfl | rfl <;> exact Nat.mod_lt _ (by omega)
theorem sum8 (a b c d e f g h : Nat) (ha : a ≤ 8) (hb : b ≤ 8) (hc : c ≤ 8) (hd : d ≤ 8) (he : e ≤ 8) (hf : f ≤ 8) (hg : g ≤ 8) (hh : h ≤ 8) :
    let v := val [a, b, c, d, e, f, g, h]
    let D := v + v / 256
    let E := D + D / 65536
    let F := E + E / 4294967296
    v < 18446744073709551616 ∧ D < 18446744073709551616 ∧ E < 18446744073709551616 ∧ F < 18446744073709551616 ∧ F % 128 = a + b + c + d + e + f + g + h := by
  intro v D E F
  have hv : v = a + 256 * b + 65536 * c + 16777216 * d + 4294967296 * e + 1099511627776 * f + 281474976710656 * g + 72057594037927936 * h := by
    show val [a, b, c, d, e, f, g, h] = _
    simp only [val]; omega
  have hD : D = (a + b) + 256 * (b + c) + 65536 * (c + d) + 16777216 * (d + e) + 4294967296 * (e + f) + 1099511627776 * (f + g) + 281474976710656 * (g + h) + 72057594037927936 * h := by
    show v + v / 256 = _
    omega
  have hE : E = (a + b + c + d) + 256 * (b + c + d + e) + 65536 * (c + d + e + f) + 16777216 * (d + e + f + g) + 4294967296 * (e + f + g + h) + 1099511627776 * (f + g + h) + 281474976710656 * (g + h) + 72057594037927936 * h := by
    show D + D / 65536 = _
    clear hv
    omega
  have hF : F = E + ((e + f + g + h) + 256 * (f + g + h) + 65536 * (g + h) + 16777216 * h) := by
    show E + E / 4294967296 = _
    clear hv hD
    omega
  clear_value F E D v
  refine ⟨?_, ?_, ?_, ?_, ?_⟩
  · clear hD hE hF; omega
  · clear hv hE hF; omega
  · clear hv hD hF; omega
  · clear hv hD; omega
  · clear hv hD; omega
end Go.Proofs.YtekfceolignihaaDoor
