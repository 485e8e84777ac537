/- 'OnesCount64', 'Free'. -/
import Derived.Test.YtekfceolignihaaDoorS11
import Derived.Test.YtekfceolignihaaDoorS5
namespace Go.Proofs.YtekfceolignihaaDoor
open Go.RowKit
set_option linter.unusedVariables false
set_option linter.unusedSimpArgs false
attribute [local go_sem] cell_set set_set m_undef

set_option maxHeartbeats 1000000 in
theorem onesCore (w : World) (x A1 A2 A B1 B2 B C0 C D E F F2 P : Int)
    (f1 : bits .and .u64 (x / 2) 6148914691236517205 = A1) (f2 : bits .and .u64 x 6148914691236517205 = A2) (f3 : IntKind.u64.wrap (A1 + A2) = A)
    (f4 : bits .and .u64 (A / 4) 3689348814741910323 = B1) (f5 : bits .and .u64 A 3689348814741910323 = B2) (f6 : IntKind.u64.wrap (B1 + B2) = B)
    (f7 : IntKind.u64.wrap (B / 16 + B) = C0) (f8 : bits .and .u64 C0 1085102592571150095 = C)
    (f9 : IntKind.u64.wrap (C + C / 256) = D) (f10 : IntKind.u64.wrap (D + D / 65536) = E) (f11 : IntKind.u64.wrap (E + E / 4294967296) = F)
    (f12 : IntKind.i64.wrap F = F2) (f13 : bits .and .i64 F2 127 = P) :
    Calls Tryd.prog 22 #[.int .u64 x] w fun e w' => e = .returned (.int .i64 P) ∧ w' = w := by
  go_enter Tryd.func22, Tryd.ntmps22
  go_wp2
  go_ret
  exact ⟨rfl, rfl⟩
theorem wrap_nat (a : Nat) (h : a < 18446744073709551616) : IntKind.u64.wrap (a : Int) = (a : Int) := by rw [IntKind.wrap_u64]; omega
theorem map_len (f : Nat → Nat) (l : List Nat) : (l.map f).length = l.length := List.length_map ..
theorem mod128 (F : Nat) : IntKind.i64.wrap (F : Int) % 128 = ((F % 128 : Nat) : Int) := by rw [IntKind.wrap_i64]; omega
theorem mask_lt : (6148914691236517205 : Nat) < 18446744073709551616 ∧ (3689348814741910323 : Nat) < 18446744073709551616 ∧ (1085102592571150095 : Nat) < 18446744073709551616 := by decide
theorem sum_le {a b c : Nat} (h : a + b = c) : a ≤ c ∧ b ≤ c := by omega
theorem half_lt (x : Nat) (h : x < 18446744073709551616) : x / 2 < 18446744073709551616 := by omega
theorem quart_lt (x : Nat) (h : x < 18446744073709551616) : x / 4 < 18446744073709551616 := by omega
theorem val_lt : ∀ l : List Nat, small l → val l < 256 ^ l.length
  | [], _ => by simp [val]
  | t :: l, h => by
    have ih := val_lt l (fun x hx => h x (List.mem_cons_of_mem _ hx))
    have ht := h t (List.mem_cons_self ..)
    show t + 256 * val l < 256 ^ (l.length + 1)
    rw [Nat.pow_succ]
    omega
theorem val8_lt (l : List Nat) (h : small l) (hl : l.length = 8) : val l < 18446744073709551616 := by
  have := val_lt l h
  rw [hl] at this
  exact this
theorem nat_and (a m : Nat) (ha : a < 18446744073709551616) (hm : m < 18446744073709551616) : bits .and .u64 (a : Int) (m : Int) = ((a &&& m : Nat) : Int) := u64_and_nat a m ha hm
theorem add_cast (a b : Nat) : (a : Int) + (b : Int) = ((a + b : Nat) : Int) := by omega
theorem div_cast (a b : Nat) : (a : Int) / (b : Int) = ((a / b : Nat) : Int) := by omega
theorem sum16_lt (B : Nat) (l : List Nat) (hl : l.length = 8) (hB : B = val l) (hn : nib l) : B / 16 + B < 18446744073709551616 := by
  match l, hl with
  | [a, b, c, d, e, f, g, h], _ =>
    have p := fun u hu => hn u hu
    have pa := p a (by simp); have pb := p b (by simp); have pc := p c (by simp); have pd := p d (by simp)
    have pe := p e (by simp); have pf := p f (by simp); have pg := p g (by simp); have ph := p h (by simp)
    have ha : a ≤ 68 := by omega
    have hb : b ≤ 68 := by omega
    have hc : c ≤ 68 := by omega
    have hd : d ≤ 68 := by omega
    have he : e ≤ 68 := by omega
    have hf : f ≤ 68 := by omega
    have hg : g ≤ 68 := by omega
    have hh : h ≤ 68 := by omega
    clear pa pb pc pd pe pf pg ph p hn
    simp only [val] at hB
    omega
theorem cast2 (a m : Nat) (k : Int) (hk : k = (m : Int)) (ha : a < 18446744073709551616) (hm : m < 18446744073709551616) : bits .and .u64 (a : Int) k = ((a &&& m : Nat) : Int) := by rw [hk]; exact nat_and a m ha hm
theorem kOnes (x : Nat) (hx : x < 18446744073709551616) (w : World) :
    Calls Tryd.prog 22 #[.int .u64 (x : Int)] w fun e w' => e = .returned (.int .i64 (cnt x.testBit 64 : Int)) ∧ w' = w := by
  have hs0 := bytes8_small x
  have hv0 := bytes8_val x hx
  have hl0 : (bytes8 x).length = 8 := rfl
  have hA := stepA _ hs0
  have hs1 : small ((bytes8 x).map h0) := fun u hu => by
    obtain ⟨t, ht, rfl⟩ := List.mem_map.1 hu
    exact (q2 ⟨t, hs0 t ht⟩).1
  have hl1 : ((bytes8 x).map h0).length = 8 := by rw [List.length_map]; rfl
  have hB := stepB _ hs1
  have hq2 : ∀ u ∈ ((bytes8 x).map h0).map h1, u % 16 ≤ 4 ∧ u / 16 ≤ 4 ∧ u < 256 := fun u hu => by
    obtain ⟨v, hv, rfl⟩ := List.mem_map.1 hu
    obtain ⟨t, ht, rfl⟩ := List.mem_map.1 hv
    have := q2 ⟨t, hs0 t ht⟩
    exact ⟨this.2.1, this.2.2.1, this.2.2.2.1⟩
  have hn2 : nib (((bytes8 x).map h0).map h1) := fun u hu => ⟨(hq2 u hu).1, (hq2 u hu).2.1⟩
  have hs2 : small (((bytes8 x).map h0).map h1) := fun u hu => (hq2 u hu).2.2
  have hl2 : (((bytes8 x).map h0).map h1).length = 8 := by rw [List.length_map]; exact hl1
  have hC := stepC _ hn2
  have h3 : (((bytes8 x).map h0).map h1).map h2 = (bytes8 x).map fun t => cnt t.testBit 8 := by
    rw [List.map_map, List.map_map]
    apply List.map_congr_left
    intro t ht
    exact (q2 ⟨t, hs0 t ht⟩).2.2.2.2.1
  have hcv := cnt_val _ hs0
  have hle : ∀ t ∈ bytes8 x, cnt t.testBit 8 ≤ 8 := fun t ht => cnt_le _ 8
  rw [hl0, maskA, hv0] at hA
  rw [hl1, maskB] at hB
  rw [hl2, maskC, h3] at hC
  rw [hl0, hv0] at hcv
  have b1 := val8_lt _ hs1 hl1
  have b2 := val8_lt _ hs2 hl2
  have b3 := sum16_lt _ _ hl2 rfl hn2
  have hS := sum8 (cnt (x % 256).testBit 8) (cnt (x / 256 % 256).testBit 8) (cnt (x / 65536 % 256).testBit 8) (cnt (x / 16777216 % 256).testBit 8) (cnt (x / 4294967296 % 256).testBit 8) (cnt (x / 1099511627776 % 256).testBit 8) (cnt (x / 281474976710656 % 256).testBit 8) (cnt (x / 72057594037927936 % 256).testBit 8) (cnt_le _ 8) (cnt_le _ 8) (cnt_le _ 8) (cnt_le _ 8) (cnt_le _ 8) (cnt_le _ 8) (cnt_le _ 8) (cnt_le _ 8)
  have e3 : (bytes8 x).map (fun t => cnt t.testBit 8) = [cnt (x % 256).testBit 8, cnt (x / 256 % 256).testBit 8, cnt (x / 65536 % 256).testBit 8, cnt (x / 16777216 % 256).testBit 8, cnt (x / 4294967296 % 256).testBit 8, cnt (x / 1099511627776 % 256).testBit 8, cnt (x / 281474976710656 % 256).testBit 8, cnt (x / 72057594037927936 % 256).testBit 8] := rfl
  rw [e3] at hC hcv
  simp only [List.sum_cons, List.sum_nil, Nat.add_zero] at hcv
  have hcv2 : cnt x.testBit 64 = _ := hcv
  rw [hcv2]
  clear hcv hcv2 e3 hq2 hn2 hs2 hs1 hs0 hl0 hl1 hl2 hv0 hle h3
  obtain ⟨g1, g2, g3, g4, g5⟩ := hS
  generalize val ((bytes8 x).map h0) = A at *
  generalize val (((bytes8 x).map h0).map h1) = B at *
  generalize cnt (x % 256).testBit 8 = p1 at *
  generalize cnt (x / 256 % 256).testBit 8 = p2 at *
  generalize cnt (x / 65536 % 256).testBit 8 = p3 at *
  generalize cnt (x / 16777216 % 256).testBit 8 = p4 at *
  generalize cnt (x / 4294967296 % 256).testBit 8 = p5 at *
  generalize cnt (x / 1099511627776 % 256).testBit 8 = p6 at *
  generalize cnt (x / 281474976710656 % 256).testBit 8 = p7 at *
  generalize cnt (x / 72057594037927936 % 256).testBit 8 = p8 at *
  generalize val [p1, p2, p3, p4, p5, p6, p7, p8] = C at *
  obtain ⟨m1, m2, m3⟩ := mask_lt
  have f1 : bits .and .u64 ((x : Int) / 2) 6148914691236517205 = ((x / 2 &&& 6148914691236517205 : Nat) : Int) := nat_and (x / 2) 6148914691236517205 (half_lt x hx) m1
  have f2 : bits .and .u64 (x : Int) 6148914691236517205 = ((x &&& 6148914691236517205 : Nat) : Int) := nat_and x 6148914691236517205 hx m1
  have f3 : IntKind.u64.wrap (((x / 2 &&& 6148914691236517205 : Nat) : Int) + ((x &&& 6148914691236517205 : Nat) : Int)) = (A : Int) := by rw [← Int.natCast_add, hA]; exact wrap_nat _ b1
  have f4 : bits .and .u64 ((A : Int) / 4) 3689348814741910323 = ((A / 4 &&& 3689348814741910323 : Nat) : Int) := nat_and (A / 4) 3689348814741910323 (quart_lt A b1) m2
  have f5 : bits .and .u64 (A : Int) 3689348814741910323 = ((A &&& 3689348814741910323 : Nat) : Int) := nat_and A 3689348814741910323 b1 m2
  have f6 : IntKind.u64.wrap (((A / 4 &&& 3689348814741910323 : Nat) : Int) + ((A &&& 3689348814741910323 : Nat) : Int)) = (B : Int) := by rw [← Int.natCast_add, hB]; exact wrap_nat _ b2
  have f7 : IntKind.u64.wrap ((B : Int) / 16 + (B : Int)) = ((B / 16 + B : Nat) : Int) := wrap_nat (B / 16 + B) b3
  have f8 : bits .and .u64 ((B / 16 + B : Nat) : Int) 1085102592571150095 = (C : Int) := by rw [← hC]; exact nat_and (B / 16 + B) 1085102592571150095 b3 m3
  have f9 : IntKind.u64.wrap ((C : Int) + (C : Int) / 256) = ((C + C / 256 : Nat) : Int) := wrap_nat (C + C / 256) g2
  obtain ⟨D, hD⟩ : ∃ D, D = C + C / 256 := ⟨_, rfl⟩
  rw [← hD] at f9 g2 g3 g4 g5
  have f10 : IntKind.u64.wrap ((D : Int) + (D : Int) / 65536) = ((D + D / 65536 : Nat) : Int) := wrap_nat (D + D / 65536) g3
  obtain ⟨E, hE⟩ : ∃ E, E = D + D / 65536 := ⟨_, rfl⟩
  rw [← hE] at f10 g3 g4 g5
  have f11 : IntKind.u64.wrap ((E : Int) + (E : Int) / 4294967296) = ((E + E / 4294967296 : Nat) : Int) := wrap_nat (E + E / 4294967296) g4
  refine onesCore w x _ _ A _ _ B _ C D E _ _ _ f1 f2 f3 f4 f5 f6 f7 f8 f9 f10 f11 rfl ?_
  rw [i64_and127, mod128, g5]
  simp only [Nat.add_assoc]
end Go.Proofs.YtekfceolignihaaDoor
