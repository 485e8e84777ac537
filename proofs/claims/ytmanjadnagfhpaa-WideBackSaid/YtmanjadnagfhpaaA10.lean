/- math/bits.Div64: quotient and rest of 128 bits by 64, where the quotient fits. -/
import Derived.Test.YtmanjadnagfhpaaA10a
import Derived.Deep.CutBlock
namespace Go.Proofs.Ytmanjadnagfhpaa
open Go.RowKit
set_option linter.unusedVariables false
set_option linter.unusedSimpArgs false

set_option maxHeartbeats 3200000 in
theorem div64_core (h l y : Int) (s : Nat) (hs : s ≤ 63) (hh : is64 h) (hl : is64 l) (hy : is64 y) (hlt : h < y) (h0 : h ≠ 0)
    (Y y1 y0 u z v1 v0 : Int) (d1 : Dig Y y1 y0 u v1) (d0 : Dig Y y1 y0 ((u * 4294967296 + v1) % Y) v0)
    (E1 : IntKind.u64.wrap (y * 2 ^ s) = Y) (E2 : Y / 4294967296 = y1) (E3 : bits .and .u64 Y 4294967295 = y0)
    (E4 : bits .or .u64 (IntKind.u64.wrap (h * 2 ^ s)) (l / 2 ^ (64 - s)) = u) (E5 : IntKind.u64.wrap (l * 2 ^ s) = z) (E6 : z / 4294967296 = v1) (E7 : bits .and .u64 z 4294967295 = v0)
    (w : World) (hL : Hid (∀ w, Calls Try.prog 54 #[.int .u64 y] w fun e w' => e = .returned (.int .i64 (s : Int)) ∧ w = w')) :
    Calls Try.prog 50 #[.int .u64 h, .int .u64 l, .int .u64 y] w fun e w' => e = .returned (.tuple #[.int .u64 (qt Y u v1 * 4294967296 + qt Y ((u * 4294967296 + v1) % Y) v0), .int .u64 (((u * 4294967296 + v1) % Y * 4294967296 + v0) % Y / 2 ^ s)]) ∧ w = w' := by
  have g1 : (y == 0) = false := by rw [beq_eq_false_iff_ne]; have := hh.1; omega
  have g2 : decide (y ≤ h) = false := by simp; omega
  have g3 : (h == 0) = false := by rw [beq_eq_false_iff_ne]; exact h0
  have g4 : ¬ y ≤ h := by omega
  have g5 : ¬ y1 = 0 := by have := d1.a1; omega
  have st := start d1
  obtain ⟨q, hq⟩ : ∃ q, q = u / y1 := ⟨_, rfl⟩
  rw [← hq] at st
  obtain ⟨p, hp⟩ : ∃ p, p = q * y1 := ⟨_, rfl⟩
  rw [← hp] at st
  obtain ⟨r, hr⟩ : ∃ r, r = u - p := ⟨_, rfl⟩
  rw [← hr] at st
  obtain ⟨si, S1, S2, S3⟩ := st
  have Hq := Lib.hid hq
  have Hp := Lib.hid hp
  have Hr := Lib.hid hr
  have SI := Lib.hid si
  have S2' : IntKind.u64.wrap (q * y1) = p := by rw [← hp]; exact S2
  have S3' : IntKind.u64.wrap (u - p) = r := by rw [← hr]; exact S3
  clear hq hp hr si S2 S3
  go_enter Try.func50, Try.ntmps50
  go_upto_block 0 with (go_at_call 54; refine (hL.out _).mono ?_; rintro e w1 ⟨rfl, rfl⟩)
  go_cut [15, 16] (fun a _ wx => a = .int .u64 (qt Y u v1) ∧ w = wx)
  case first =>
    apply wp_block
    go_loop [15, 16] (fun a b => ∃ q r : Int, a = .int .u64 q ∧ b = .int .u64 r ∧ DInv Y y1 u v1 q r) (fun a _ => (intOf a).toNat)
    case atStart => exact ⟨_, _, rfl, rfl, SI.out⟩
    case round =>
      obtain ⟨q, r, rfl, rfl, hi⟩ := hrel
      have hq0 := hi.2.2.2.2.1
      have hr0 := hi.2.1
      have hq9 := hi.2.2.2.2.2
      have hr9 := hi.2.2.1
      by_cases ht : qt Y u v1 < q
      · have hst := hi.step d1 ht
        have w1 : IntKind.u64.wrap (q - 1) = q - 1 := by rw [IntKind.wrap_u64]; omega
        have w2 : IntKind.u64.wrap (r + y1) = r + y1 := by have := hst.2.2.2.2; rw [IntKind.wrap_u64]; omega
        have Hm : (q - 1).toNat < q.toNat := by omega
        by_cases hr : r + y1 < 4294967296
        · have HN := Lib.hid (hi.next d1 ht hr)
          by_cases hB : 4294967296 ≤ q
          · have HI := Lib.hid hi
            clear hi ht hst
            go_wp2
            go_round
            case rel => exact ⟨_, _, rfl, rfl, HN.out⟩
            case measure => simp only [intOf]; exact Hm
          · obtain ⟨x1, x2, x3⟩ := hi.wraps d1 (by omega)
            have ht2 := (hi.test d1).2 ht
            obtain ⟨P, hP⟩ : ∃ P, P = q * y0 := ⟨_, rfl⟩
            rw [← hP] at x1 ht2
            have x1' : IntKind.u64.wrap (q * y0) = P := by rw [← hP]; exact x1
            have HI := Lib.hid hi
            have HP := Lib.hid hP
            clear hi ht hst x1 hP
            go_wp2
            go_round
            case rel => exact ⟨_, _, rfl, rfl, HN.out⟩
            case measure => simp only [intOf]; exact Hm
        · have HN := Lib.hid (hi.brk d1 ht (by omega))
          by_cases hB : 4294967296 ≤ q
          · have HI := Lib.hid hi
            clear hi ht hst
            go_wp2
            go_meet
            exact ⟨by rw [← HN.out], rfl⟩
          · obtain ⟨x1, x2, x3⟩ := hi.wraps d1 (by omega)
            have ht2 := (hi.test d1).2 ht
            obtain ⟨P, hP⟩ : ∃ P, P = q * y0 := ⟨_, rfl⟩
            rw [← hP] at x1 ht2
            have x1' : IntKind.u64.wrap (q * y0) = P := by rw [← hP]; exact x1
            have HI := Lib.hid hi
            have HP := Lib.hid hP
            clear hi ht hst x1 hP
            go_wp2
            go_meet
            exact ⟨by rw [← HN.out], rfl⟩
      · have HN := Lib.hid (hi.done ht)
        have hB : q < 4294967296 := by have := hi.done ht; have := qt_lt d1; omega
        obtain ⟨x1, x2, x3⟩ := hi.wraps d1 hB
        have ht2 := fun h => ht ((hi.test d1).1 h)
        obtain ⟨P, hP⟩ : ∃ P, P = q * y0 := ⟨_, rfl⟩
        rw [← hP] at x1 ht2
        have ht3 : ¬ 4294967296 * r + v1 < P := ht2
        have x1' : IntKind.u64.wrap (q * y0) = P := by rw [← hP]; exact x1
        have HI := Lib.hid hi
        have HP := Lib.hid hP
        clear hi ht x1 hP ht2
        go_wp2
        go_meet
        exact ⟨by rw [← HN.out], rfl⟩
  case rest =>
    obtain ⟨rfl, rfl⟩ := hcut
    obtain ⟨x, hx⟩ : ∃ x, x = (u * 4294967296 + v1) % Y := ⟨_, rfl⟩
    have hre := rest d1
    rw [← hx] at d0 hre
    have hqb := qt_nonneg d1
    have hqc := qt_lt d1
    have hqd := qt_nonneg d0
    have hqe := qt_lt d0
    have hre0 := rest d0
    obtain ⟨a, ha⟩ : ∃ a, a = qt Y u v1 := ⟨_, rfl⟩
    rw [← ha] at hre hqb hqc ⊢
    have st := start d0
    obtain ⟨q, hq⟩ : ∃ q, q = x / y1 := ⟨_, rfl⟩
    rw [← hq] at st
    obtain ⟨p, hp⟩ : ∃ p, p = q * y1 := ⟨_, rfl⟩
    rw [← hp] at st
    obtain ⟨r, hr⟩ : ∃ r, r = x - p := ⟨_, rfl⟩
    rw [← hr] at st
    obtain ⟨si, S1, S2, S3⟩ := st
    have SJ := Lib.hid si
    have S2' : IntKind.u64.wrap (q * y1) = p := by rw [← hp]; exact S2
    have S3' : IntKind.u64.wrap (x - p) = r := by rw [← hr]; exact S3
    have Hx := Lib.hid hx
    have Ha := Lib.hid ha
    clear hq hp hr si S2 S3 hx ha
    have F1 : IntKind.u64.wrap (a * 4294967296) = a * 4294967296 := by rw [IntKind.wrap_u64]; omega
    have hre0' := Lib.hid hre0
    have F1' := Lib.hid F1
    clear hre0 F1
    go_upto_block 2 with fail
    go_cut [18, 16] (fun a _ wx => a = .int .u64 (qt Y x v0) ∧ w = wx)
    case first =>
      apply wp_block
      go_loop [18, 16] (fun a b => ∃ q r : Int, a = .int .u64 q ∧ b = .int .u64 r ∧ DInv Y y1 x v0 q r) (fun a _ => (intOf a).toNat)
      case atStart => exact ⟨_, _, rfl, rfl, SJ.out⟩
      case round =>
        obtain ⟨q, r, rfl, rfl, hi⟩ := hrel
        have hq0 := hi.2.2.2.2.1
        have hr0 := hi.2.1
        have hq9 := hi.2.2.2.2.2
        have hr9 := hi.2.2.1
        by_cases ht : qt Y x v0 < q
        · have hst := hi.step d0 ht
          have w1 : IntKind.u64.wrap (q - 1) = q - 1 := by rw [IntKind.wrap_u64]; omega
          have w2 : IntKind.u64.wrap (r + y1) = r + y1 := by have := hst.2.2.2.2; rw [IntKind.wrap_u64]; omega
          have Hm : (q - 1).toNat < q.toNat := by omega
          by_cases hr : r + y1 < 4294967296
          · have HN := Lib.hid (hi.next d0 ht hr)
            by_cases hB : 4294967296 ≤ q
            · have HI := Lib.hid hi
              clear hi ht hst
              go_wp2
              go_round
              case rel => exact ⟨_, _, rfl, rfl, HN.out⟩
              case measure => simp only [intOf]; exact Hm
            · obtain ⟨x1, x2, x3⟩ := hi.wraps d0 (by omega)
              have ht2 := (hi.test d0).2 ht
              obtain ⟨P, hP⟩ : ∃ P, P = q * y0 := ⟨_, rfl⟩
              rw [← hP] at x1 ht2
              have x1' : IntKind.u64.wrap (q * y0) = P := by rw [← hP]; exact x1
              have HI := Lib.hid hi
              have HP := Lib.hid hP
              clear hi ht hst x1 hP
              go_wp2
              go_round
              case rel => exact ⟨_, _, rfl, rfl, HN.out⟩
              case measure => simp only [intOf]; exact Hm
          · have HN := Lib.hid (hi.brk d0 ht (by omega))
            by_cases hB : 4294967296 ≤ q
            · have HI := Lib.hid hi
              clear hi ht hst
              go_wp2
              go_meet
              exact ⟨by rw [← HN.out], rfl⟩
            · obtain ⟨x1, x2, x3⟩ := hi.wraps d0 (by omega)
              have ht2 := (hi.test d0).2 ht
              obtain ⟨P, hP⟩ : ∃ P, P = q * y0 := ⟨_, rfl⟩
              rw [← hP] at x1 ht2
              have x1' : IntKind.u64.wrap (q * y0) = P := by rw [← hP]; exact x1
              have HI := Lib.hid hi
              have HP := Lib.hid hP
              clear hi ht hst x1 hP
              go_wp2
              go_meet
              exact ⟨by rw [← HN.out], rfl⟩
        · have HN := Lib.hid (hi.done ht)
          have hB : q < 4294967296 := by have := hi.done ht; have := qt_lt d0; omega
          obtain ⟨x1, x2, x3⟩ := hi.wraps d0 hB
          have ht2 := fun h => ht ((hi.test d0).1 h)
          obtain ⟨P, hP⟩ : ∃ P, P = q * y0 := ⟨_, rfl⟩
          rw [← hP] at x1 ht2
          have ht3 : ¬ 4294967296 * r + v0 < P := ht2
          have x1' : IntKind.u64.wrap (q * y0) = P := by rw [← hP]; exact x1
          have HI := Lib.hid hi
          have HP := Lib.hid hP
          clear hi ht x1 hP ht2
          go_wp2
          go_meet
          exact ⟨by rw [← HN.out], rfl⟩
    case rest =>
      obtain ⟨rfl, rfl⟩ := hcut
      have hre1 := hre0'.out
      have F2 := F1'.out
      obtain ⟨b, hb⟩ : ∃ b, b = qt Y x v0 := ⟨_, rfl⟩
      rw [← hb] at hre1 hqd hqe ⊢
      have F3 : IntKind.u64.wrap (a * 4294967296 + b) = a * 4294967296 + b := by rw [IntKind.wrap_u64]; omega
      have Hb := Lib.hid hb
      clear hb
      go_wp2
      go_ret2
      exact ⟨by rw [Hb.out, Ha.out, Hx.out]; rfl, rfl⟩

theorem mul_mod_mul (a b c : Int) (hp : 0 < c) : (a * c) % (b * c) = (a % b) * c := by
  rw [Int.mul_comm a, Int.mul_comm b, Int.mul_emod_mul_of_pos _ _ hp, Int.mul_comm]
theorem bitLen_pow : ∀ (x : Nat), 1 ≤ x → x < 2 ^ 64 → 1 ≤ Lib.bitLen x ∧ 2 ^ (Lib.bitLen x - 1) ≤ x ∧ x < 2 ^ Lib.bitLen x := by
  intro x
  induction x using Nat.strongRecOn with
  | ind x ih =>
    intro h1 h2
    by_cases hx : x = 1
    · subst hx; decide
    · have hh := ih (x / 2) (by omega) (by omega) (by omega)
      rw [Lib.bitLen_half x (by omega) h2]
      obtain ⟨g1, g2, g3⟩ := hh
      obtain ⟨n, hn⟩ : ∃ n, Lib.bitLen (x / 2) = n + 1 := ⟨Lib.bitLen (x / 2) - 1, by omega⟩
      rw [hn] at g2 g3 ⊢
      rw [show 1 + (n + 1) - 1 = n + 1 by omega, show 1 + (n + 1) = n + 1 + 1 by omega, Nat.pow_succ 2 (n + 1)]
      rw [show n + 1 - 1 = n by omega] at g2
      rw [Nat.pow_succ] at g3 ⊢
      omega
theorem bitLen_range (y : Int) (h1 : 1 ≤ y) (h2 : y < 18446744073709551616) : ∃ s : Nat, s ≤ 63 ∧ (64 : Int) - (Lib.bitLen y.toNat : Int) = (s : Int) ∧ 9223372036854775808 ≤ y * 2 ^ s ∧ y * 2 ^ s < 18446744073709551616 := by
  obtain ⟨x, rfl⟩ := Int.eq_ofNat_of_zero_le (show 0 ≤ y by omega)
  rw [Int.toNat_natCast]
  obtain ⟨g1, g2, g3⟩ := bitLen_pow x (by omega) (by omega)
  obtain ⟨n, hn⟩ : ∃ n, Lib.bitLen x = n + 1 := ⟨Lib.bitLen x - 1, by omega⟩
  rw [hn] at g2 g3 ⊢
  rw [show n + 1 - 1 = n by omega] at g2
  have hn63 : n ≤ 63 := by
    by_cases h : n ≤ 63
    · exact h
    · have := Nat.pow_le_pow_right (n := 2) (by omega) (show 64 ≤ n by omega)
      omega
  refine ⟨63 - n, by omega, by omega, ?_, ?_⟩
  · have h3 : 2 ^ n * 2 ^ (63 - n) ≤ x * 2 ^ (63 - n) := Nat.mul_le_mul_right _ g2
    rw [← Nat.pow_add, show n + (63 - n) = 63 by omega] at h3
    have h4 : ((x * 2 ^ (63 - n) : Nat) : Int) = (x : Int) * 2 ^ (63 - n) := by rw [Int.natCast_mul, Int.natCast_pow]; rfl
    rw [← h4]; omega
  · have h3 : x * 2 ^ (63 - n) < 2 ^ (n + 1) * 2 ^ (63 - n) := Nat.mul_lt_mul_of_pos_right g3 (Nat.pow_pos (by omega))
    rw [← Nat.pow_add, show n + 1 + (63 - n) = 64 by omega] at h3
    have h4 : ((x * 2 ^ (63 - n) : Nat) : Int) = (x : Int) * 2 ^ (63 - n) := by rw [Int.natCast_mul, Int.natCast_pow]; rfl
    rw [← h4]; omega

set_option maxHeartbeats 800000 in
theorem wDiv64 (h l y : Int) (hh : is64 h) (hl : is64 l) (hy : is64 y) (hlt : h < y) (w : World) :
    Calls Try.prog 50 #[.int .u64 h, .int .u64 l, .int .u64 y] w fun e w' => e = .returned (.tuple #[.int .u64 (val h l / y), .int .u64 (val h l % y)]) ∧ Below w.heap.size w w' := by
  by_cases h0 : h = 0
  · subst h0
    have g1 : (y == 0) = false := by rw [beq_eq_false_iff_ne]; omega
    have g2 : decide (y ≤ 0) = false := by simp; omega
    have g4 : ¬ y ≤ 0 := by omega
    have g5 : ¬ y = 0 := by omega
    have e1 : val 0 l = l := N_val l
    rw [e1]
    have hq1 : l / y ≤ l := Int.ediv_le_self _ hl.1
    have hq0 : 0 ≤ l / y := Int.ediv_nonneg hl.1 (by omega)
    have e2 : IntKind.u64.wrap (l.tdiv y) = l / y := by rw [Int.tdiv_eq_ediv_of_nonneg hl.1, IntKind.wrap_u64]; have := hl.2; omega
    have hm0 := Int.emod_nonneg l (b := y) (by omega)
    have hm1 := Int.emod_lt_of_pos l (b := y) (by omega)
    have e3 : IntKind.u64.wrap (l.tmod y) = l % y := by rw [Int.tmod_eq_emod_of_nonneg hl.1, IntKind.wrap_u64]; have := hy.2; omega
    clear hq1 hq0 hm0 hm1
    go_enter Try.func50, Try.ntmps50
    go_wp2
    go_region
    all_goals
      go_wp2
      go_ret2
      refine ⟨?_, by repeat (first | (with_reducible exact Below.refl _ _) | (with_reducible assumption) | (with_reducible apply bel_alloc) | (with_reducible apply bel_drew) | (with_reducible refine bel_set ?_ (by first | exact Nat.le_refl _ | (simp; done) | omega | (simp; omega)) _) | (with_reducible refine bel_trans ?_ (by with_reducible assumption)))⟩
      show Ending.returned (.tuple #[.int .u64 (l / y), .int .u64 (l.tmod y)]) = _
      rw [Int.tmod_eq_emod_of_nonneg hl.1]
  · obtain ⟨s, hs, hsn, hy1, hy2⟩ := bitLen_range y (by have := hh.1; omega) hy.2
    have hL : Hid (∀ w, Calls Try.prog 54 #[.int .u64 y] w fun e w' => e = .returned (.int .i64 (s : Int)) ∧ w = w') := Lib.hid (fun w => by
      rw [← hsn]; exact (Try.bits_LeadingZeros64 y w hy.1 (by have := hy.2; omega)).mono fun e w' ⟨h1, h2⟩ => ⟨h1, h2.symm⟩)
    obtain ⟨E1, E4, hu, hu0, hU⟩ := shifted h l y s hs hh hl hlt hy1 hy2
    obtain ⟨Y, hY⟩ : ∃ Y, Y = y * 2 ^ s := ⟨_, rfl⟩
    obtain ⟨u, hu'⟩ : ∃ u, u = h * 2 ^ s + l / 2 ^ (64 - s) := ⟨_, rfl⟩
    obtain ⟨z, hz⟩ : ∃ z, z = IntKind.u64.wrap (l * 2 ^ s) := ⟨_, rfl⟩
    rw [← hu', ← hz] at hU
    rw [← hu'] at E4 hu hu0
    have hzb : 0 ≤ z ∧ z < 18446744073709551616 := by rw [hz, IntKind.wrap_u64]; omega
    have E1' : IntKind.u64.wrap (y * 2 ^ s) = Y := by rw [E1, hY]
    rw [← hY] at hu hy1 hy2
    have E3 := Go.and_low32 Y (by omega) hy2
    have E7 := Go.and_low32 z hzb.1 hzb.2
    have hm0 := Int.emod_nonneg (u * 4294967296 + z / 4294967296) (b := Y) (by omega)
    have hm1 := Int.emod_lt_of_pos (u * 4294967296 + z / 4294967296) (b := Y) (by omega)
    have d1 : Dig Y (Y / 4294967296) (Y % 4294967296) u (z / 4294967296) := ⟨by omega, by omega, by omega, by omega, by omega, hu0, hu, by omega, by omega⟩
    have d0 : Dig Y (Y / 4294967296) (Y % 4294967296) ((u * 4294967296 + z / 4294967296) % Y) (z % 4294967296) := ⟨by omega, by omega, by omega, by omega, by omega, hm0, hm1, by omega, by omega⟩
    have hfin := digits (Y := Y) u (z / 4294967296) (z % 4294967296) (by omega)
    rw [show z / 4294967296 * 4294967296 + z % 4294967296 = z by omega, hU, hY] at hfin
    have hp : (0 : Int) < 2 ^ s := Int.pow_pos (by omega)
    rw [Int.mul_ediv_mul_of_pos_left _ _ hp, mul_mod_mul _ _ _ hp, ← hY] at hfin
    have hmm := Int.emod_nonneg (h * 18446744073709551616 + l) (b := y) (by have := hh.1; omega)
    refine (div64_core h l y s hs hh hl hy hlt h0 Y (Y / 4294967296) (Y % 4294967296) u z (z / 4294967296) (z % 4294967296) d1 d0 E1' rfl E3 E4 hz.symm rfl E7 w hL).mono ?_
    rintro e w' ⟨rfl, rfl⟩
    refine ⟨?_, Below.refl _ _⟩
    rw [← hfin.1, ← hfin.2, Int.mul_ediv_cancel _ (by omega)]
    rfl
end Go.Proofs.Ytmanjadnagfhpaa
