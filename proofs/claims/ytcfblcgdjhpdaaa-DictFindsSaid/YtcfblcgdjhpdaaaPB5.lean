/- 'Large' of both packages. -/
import Derived.Test.YtcfblcgdjhpdaaaPB4
import Derived.Test.YtcfblcgdjhpdaaaBY
namespace Go.Proofs.Ytcfblcgdjhpdaaa
open Go.RowKit
set_option linter.unusedVariables false
set_option linter.unusedSimpArgs false

def up (c : UInt8) : UInt8 := if 97 ≤ c.toNat ∧ c.toNat ≤ 122 then c - 32 else c
def large (s : ByteArray) : ByteArray := ⟨(s.data.toList.map up).toArray⟩
/-- What the row holds when k bytes are done. -/
def st (l : List UInt8) (k : Nat) : List UInt8 := (l.map up).take k ++ l.drop k
theorem st_len (l : List UInt8) (k : Nat) (hk : k ≤ l.length) : (st l k).length = l.length := by unfold st; simp; omega
theorem st_at (l : List UInt8) (k : Nat) (hk : k < l.length) : (st l k)[k]? = some l[k] := by
  unfold st
  rw [List.getElem?_append_right (by simp; omega)]
  simp [Nat.min_eq_left (Nat.le_of_lt hk), hk]
theorem st_next (l : List UInt8) (k : Nat) (hk : k < l.length) : (st l k).set k (up l[k]) = st l (k + 1) := by
  apply List.ext_getElem?
  intro i
  unfold st
  rw [List.getElem?_set]
  have h1 : min k l.length = k := by omega
  have h2 : min (k + 1) l.length = k + 1 := by omega
  by_cases e : k = i
  · subst e
    rw [if_pos rfl, if_pos (by simp; omega), List.getElem?_append_left (by simp; omega)]
    simp [hk]
  · rw [if_neg e]
    by_cases hi : i < k
    · rw [List.getElem?_append_left (by simp; omega), List.getElem?_append_left (by simp; omega), List.getElem?_take, List.getElem?_take, if_pos hi, if_pos (by omega)]
    · rw [List.getElem?_append_right (by simp; omega), List.getElem?_append_right (by simp; omega)]
      simp [h1, h2]
      congr 1; omega
theorem st_end (l : List UInt8) : st l l.length = l.map up := by unfold st; rw [List.drop_length, List.append_nil, List.take_of_length_le (by simp)]
theorem up_same {l : List UInt8} {k : Nat} (hk : k < l.length) (h : up l[k] = l[k]) : st l (k + 1) = st l k := by
  rw [← st_next l k hk, h]
  apply List.ext_getElem?
  intro i
  rw [List.getElem?_set]
  split
  · rename_i e
    subst e
    rw [if_pos (by rw [st_len l k (by omega)]; exact hk), st_at l k hk]
  · rfl

set_option maxRecDepth 100000 in
set_option maxHeartbeats 800000 in
theorem wLarge (s : ByteArray) (hs : s.size ≤ 1000) (w : World) : Calls Try.prog 32 #[.string s] w fun e w' => e = .returned (.string (large s)) ∧ Below w.heap.size w w' := by
  have hconv := run_bytes_of_string (P := Try.prog) w 9 22 5 s Try.underlying9 Try.underlying22 Try.underlying5
  have hrow := Bytes.conv w.drew s (grownCap w s.size 0 5) 5 (bytesRow s (grownCap w s.size 0 5)).size ((bytesRow s (grownCap w s.size 0 5)).size + 1) (by simp [bytesRow])
  obtain ⟨R, hR⟩ : ∃ R, R = bytesRow s (grownCap w s.size 0 5) := ⟨_, rfl⟩
  obtain ⟨cap, hcap⟩ : ∃ cap, cap = grownCap w s.size 0 5 := ⟨_, rfl⟩
  rw [← hR] at hrow hconv
  rw [← hcap] at hconv
  clear hR hcap
  obtain ⟨l, hl⟩ : ∃ l, l = s.data.toList := ⟨_, rfl⟩
  have hn : l.length = s.size := by rw [hl, Array.length_toList]; rfl
  rw [← hl] at hrow
  unfold large
  rw [← hl]
  clear hl
  obtain ⟨n, hn2⟩ : ∃ n, n = s.size := ⟨_, rfl⟩
  rw [← hn2] at hn hconv hs
  clear hn2
  have hw : ∀ k : Nat, k ≤ 1000 → IntKind.i64.wrap ((k : Int) + 1) = ((k + 1 : Nat) : Int) := fun k hk => by rw [IntKind.wrap_i64]; omega
  go_enter Try.func32, Try.ntmps32
  go_wp2
  go_loopw [10] (fun i wr => ∃ k : Nat, k ≤ n ∧ i = .int .i64 (k : Int) ∧ Bytes wr w.heap.size (st l k) ∧ Below w.heap.size w wr) (fun i _ => (n - (intOf i).toNat))
  case atStart =>
    exact ⟨0, by omega, rfl, by rw [show st l 0 = l by simp [st]]; exact hrow, by repeat (first | (with_reducible exact Below.refl _ _) | (with_reducible assumption) | (with_reducible apply bel_alloc) | (with_reducible apply bel_drew) | (with_reducible refine bel_set ?_ (by first | exact Nat.le_refl _ | (simp; done) | omega | (simp; omega)) _) | (with_reducible refine bel_trans ?_ (by with_reducible assumption)))⟩
  case round =>
    obtain ⟨k, hk, rfl, hB, hbl⟩ := hrel
    clear hrow hconv
    by_cases hk0 : k < n
    · have hkl : k < l.length := by omega
      have hlen := st_len l k (by omega)
      have hat := hB k (by omega)
      have hst := st_at l k hkl
      rw [List.getElem?_eq_getElem (by omega)] at hst
      have hst' := Option.some.inj hst
      rw [hst'] at hat
      obtain ⟨c1, f1⟩ := hat
      have hx : l[k].toNat < 256 := l[k].toNat_lt
      have hnx := st_next l k hkl
      have hsame := fun h => up_same hkl h
      have hup : up l[k] = if 97 ≤ l[k].toNat ∧ l[k].toNat ≤ 122 then l[k] - 32 else l[k] := rfl
      have hset := hB.set k (up l[k]) (by omega)
      rw [hnx] at hset
      have hwk := hw k (by omega)
      have hB' := hB
      clear hst hst' hnx hw hlen hB
      by_cases hu : 97 ≤ l[k].toNat ∧ l[k].toNat ≤ 122
      · have hv : ((up l[k]).toNat : Int) = (l[k].toNat : Int) - 32 := by
          rw [hup, if_pos hu, UInt8.toNat_sub_of_le _ _ (by show 32 ≤ l[k]; exact UInt8.le_iff_toNat_le.2 (by simpa using (by omega : 32 ≤ l[k].toNat)))]
          have : (32 : UInt8).toNat = 32 := rfl
          omega
        rw [hv] at hset
        have hset' := Lib.hid hset
        clear hsame hup hset hv hB'
        obtain ⟨x, hxe⟩ : ∃ x : Int, x = (l[k].toNat : Int) := ⟨_, rfl⟩
        rw [← hxe] at c1 hset'
        have t1 : (97 : Int) ≤ x := by omega
        have t2 : x ≤ 122 := by omega
        have hw8 : IntKind.u8.wrap (x - 32) = x - 32 := by rw [IntKind.wrap_u8]; omega
        clear hxe hu hx
        go_wp2
        go_roundw
        case rel => exact ⟨k + 1, by omega, rfl, hset'.out, by repeat (first | (with_reducible exact Below.refl _ _) | (with_reducible assumption) | (with_reducible apply bel_alloc) | (with_reducible apply bel_drew) | (with_reducible refine bel_set ?_ (by first | exact Nat.le_refl _ | (simp; done) | omega | (simp; omega)) _) | (with_reducible refine bel_trans ?_ (by with_reducible assumption)))⟩
        case measure => simp [intOf]; omega
      · have hv := hsame (by rw [hup, if_neg hu])
        clear hsame hup hset
        obtain ⟨x, hxe⟩ : ∃ x : Int, x = (l[k].toNat : Int) := ⟨_, rfl⟩
        rw [← hxe] at c1
        rw [← hv] at hB'
        have hB2 := Lib.hid hB'
        clear hv hB'
        by_cases t1 : (97 : Int) ≤ x
        · have t2 : ¬ x ≤ 122 := by omega
          clear hxe hu hx
          go_wp2
          go_roundw
          case rel => exact ⟨k + 1, by omega, rfl, hB2.out, by repeat (first | (with_reducible exact Below.refl _ _) | (with_reducible assumption) | (with_reducible apply bel_alloc) | (with_reducible apply bel_drew) | (with_reducible refine bel_set ?_ (by first | exact Nat.le_refl _ | (simp; done) | omega | (simp; omega)) _) | (with_reducible refine bel_trans ?_ (by with_reducible assumption)))⟩
          case measure => simp [intOf]; omega
        · clear hxe hu hx
          go_wp2
          go_roundw
          case rel => exact ⟨k + 1, by omega, rfl, hB2.out, by repeat (first | (with_reducible exact Below.refl _ _) | (with_reducible assumption) | (with_reducible apply bel_alloc) | (with_reducible apply bel_drew) | (with_reducible refine bel_set ?_ (by first | exact Nat.le_refl _ | (simp; done) | omega | (simp; omega)) _) | (with_reducible refine bel_trans ?_ (by with_reducible assumption)))⟩
          case measure => simp [intOf]; omega
    · obtain rfl : k = n := by omega
      have hback := run_convert_bytes_back (P := Try.prog) wr 22 9 5 ⟨w.heap.size, 0, none⟩ cap (l.map up) Try.underlying22 Try.underlying5 Try.underlying9 (fun j hj => by
        have h := (hB j (by rw [← hn, st_end]; exact hj)).1
        have e : (st l k)[j]'(by rw [← hn, st_end]; exact hj) = (l.map up)[j] := by simp only [← hn, st_end]
        rw [e] at h
        have hadd : (⟨w.heap.size, 0, none⟩ : Addr).add j = ⟨w.heap.size, j, none⟩ := by unfold Addr.add; split <;> simp_all
        rw [hadd]
        simpa using h)
      rw [List.length_map, hn] at hback
      clear hB
      go_wp2
      go_ret
      exact ⟨rfl, by repeat (first | (with_reducible exact Below.refl _ _) | (with_reducible assumption) | (with_reducible apply bel_alloc) | (with_reducible apply bel_drew) | (with_reducible refine bel_set ?_ (by first | exact Nat.le_refl _ | (simp; done) | omega | (simp; omega)) _) | (with_reducible refine bel_trans ?_ (by with_reducible assumption)))⟩
set_option maxRecDepth 100000 in
set_option maxHeartbeats 800000 in
theorem rLarge (s : ByteArray) (hs : s.size ≤ 1000) (w : World) : Calls Try.prog 36 #[.string s] w fun e w' => e = .returned (.string (large s)) ∧ Below w.heap.size w w' := by
  have hconv := run_bytes_of_string (P := Try.prog) w 9 22 5 s Try.underlying9 Try.underlying22 Try.underlying5
  have hrow := Bytes.conv w.drew s (grownCap w s.size 0 5) 5 (bytesRow s (grownCap w s.size 0 5)).size ((bytesRow s (grownCap w s.size 0 5)).size + 1) (by simp [bytesRow])
  obtain ⟨R, hR⟩ : ∃ R, R = bytesRow s (grownCap w s.size 0 5) := ⟨_, rfl⟩
  obtain ⟨cap, hcap⟩ : ∃ cap, cap = grownCap w s.size 0 5 := ⟨_, rfl⟩
  rw [← hR] at hrow hconv
  rw [← hcap] at hconv
  clear hR hcap
  obtain ⟨l, hl⟩ : ∃ l, l = s.data.toList := ⟨_, rfl⟩
  have hn : l.length = s.size := by rw [hl, Array.length_toList]; rfl
  rw [← hl] at hrow
  unfold large
  rw [← hl]
  clear hl
  obtain ⟨n, hn2⟩ : ∃ n, n = s.size := ⟨_, rfl⟩
  rw [← hn2] at hn hconv hs
  clear hn2
  have hw : ∀ k : Nat, k ≤ 1000 → IntKind.i64.wrap ((k : Int) + 1) = ((k + 1 : Nat) : Int) := fun k hk => by rw [IntKind.wrap_i64]; omega
  go_enter Try.func36, Try.ntmps36
  go_wp2
  go_loopw [9] (fun i wr => ∃ k : Nat, k ≤ n ∧ i = .int .i64 (k : Int) ∧ Bytes wr w.heap.size (st l k) ∧ Below w.heap.size w wr) (fun i _ => (n - (intOf i).toNat))
  case atStart =>
    exact ⟨0, by omega, rfl, by rw [show st l 0 = l by simp [st]]; exact hrow, by repeat (first | (with_reducible exact Below.refl _ _) | (with_reducible assumption) | (with_reducible apply bel_alloc) | (with_reducible apply bel_drew) | (with_reducible refine bel_set ?_ (by first | exact Nat.le_refl _ | (simp; done) | omega | (simp; omega)) _) | (with_reducible refine bel_trans ?_ (by with_reducible assumption)))⟩
  case round =>
    obtain ⟨k, hk, rfl, hB, hbl⟩ := hrel
    clear hrow hconv
    by_cases hk0 : k < n
    · have hkl : k < l.length := by omega
      have hlen := st_len l k (by omega)
      have hat := hB k (by omega)
      have hst := st_at l k hkl
      rw [List.getElem?_eq_getElem (by omega)] at hst
      have hst' := Option.some.inj hst
      rw [hst'] at hat
      obtain ⟨c1, f1⟩ := hat
      have hx : l[k].toNat < 256 := l[k].toNat_lt
      have hnx := st_next l k hkl
      have hsame := fun h => up_same hkl h
      have hup : up l[k] = if 97 ≤ l[k].toNat ∧ l[k].toNat ≤ 122 then l[k] - 32 else l[k] := rfl
      have hset := hB.set k (up l[k]) (by omega)
      rw [hnx] at hset
      have hwk := hw k (by omega)
      have hB' := hB
      clear hst hst' hnx hw hlen hB
      by_cases hu : 97 ≤ l[k].toNat ∧ l[k].toNat ≤ 122
      · have hv : ((up l[k]).toNat : Int) = (l[k].toNat : Int) - 32 := by
          rw [hup, if_pos hu, UInt8.toNat_sub_of_le _ _ (by show 32 ≤ l[k]; exact UInt8.le_iff_toNat_le.2 (by simpa using (by omega : 32 ≤ l[k].toNat)))]
          have : (32 : UInt8).toNat = 32 := rfl
          omega
        rw [hv] at hset
        have hset' := Lib.hid hset
        clear hsame hup hset hv hB'
        obtain ⟨x, hxe⟩ : ∃ x : Int, x = (l[k].toNat : Int) := ⟨_, rfl⟩
        rw [← hxe] at c1 hset'
        have t1 : (97 : Int) ≤ x := by omega
        have t2 : x ≤ 122 := by omega
        have hw8 : IntKind.u8.wrap (x - 32) = x - 32 := by rw [IntKind.wrap_u8]; omega
        clear hxe hu hx
        go_wp2
        go_roundw
        case rel => exact ⟨k + 1, by omega, rfl, hset'.out, by repeat (first | (with_reducible exact Below.refl _ _) | (with_reducible assumption) | (with_reducible apply bel_alloc) | (with_reducible apply bel_drew) | (with_reducible refine bel_set ?_ (by first | exact Nat.le_refl _ | (simp; done) | omega | (simp; omega)) _) | (with_reducible refine bel_trans ?_ (by with_reducible assumption)))⟩
        case measure => simp [intOf]; omega
      · have hv := hsame (by rw [hup, if_neg hu])
        clear hsame hup hset
        obtain ⟨x, hxe⟩ : ∃ x : Int, x = (l[k].toNat : Int) := ⟨_, rfl⟩
        rw [← hxe] at c1
        rw [← hv] at hB'
        have hB2 := Lib.hid hB'
        clear hv hB'
        by_cases t1 : (97 : Int) ≤ x
        · have t2 : ¬ x ≤ 122 := by omega
          clear hxe hu hx
          go_wp2
          go_roundw
          case rel => exact ⟨k + 1, by omega, rfl, hB2.out, by repeat (first | (with_reducible exact Below.refl _ _) | (with_reducible assumption) | (with_reducible apply bel_alloc) | (with_reducible apply bel_drew) | (with_reducible refine bel_set ?_ (by first | exact Nat.le_refl _ | (simp; done) | omega | (simp; omega)) _) | (with_reducible refine bel_trans ?_ (by with_reducible assumption)))⟩
          case measure => simp [intOf]; omega
        · clear hxe hu hx
          go_wp2
          go_roundw
          case rel => exact ⟨k + 1, by omega, rfl, hB2.out, by repeat (first | (with_reducible exact Below.refl _ _) | (with_reducible assumption) | (with_reducible apply bel_alloc) | (with_reducible apply bel_drew) | (with_reducible refine bel_set ?_ (by first | exact Nat.le_refl _ | (simp; done) | omega | (simp; omega)) _) | (with_reducible refine bel_trans ?_ (by with_reducible assumption)))⟩
          case measure => simp [intOf]; omega
    · obtain rfl : k = n := by omega
      have hback := run_convert_bytes_back (P := Try.prog) wr 22 9 5 ⟨w.heap.size, 0, none⟩ cap (l.map up) Try.underlying22 Try.underlying5 Try.underlying9 (fun j hj => by
        have h := (hB j (by rw [← hn, st_end]; exact hj)).1
        have e : (st l k)[j]'(by rw [← hn, st_end]; exact hj) = (l.map up)[j] := by simp only [← hn, st_end]
        rw [e] at h
        have hadd : (⟨w.heap.size, 0, none⟩ : Addr).add j = ⟨w.heap.size, j, none⟩ := by unfold Addr.add; split <;> simp_all
        rw [hadd]
        simpa using h)
      rw [List.length_map, hn] at hback
      clear hB
      go_wp2
      go_ret
      exact ⟨rfl, by repeat (first | (with_reducible exact Below.refl _ _) | (with_reducible assumption) | (with_reducible apply bel_alloc) | (with_reducible apply bel_drew) | (with_reducible refine bel_set ?_ (by first | exact Nat.le_refl _ | (simp; done) | omega | (simp; omega)) _) | (with_reducible refine bel_trans ?_ (by with_reducible assumption)))⟩
end Go.Proofs.Ytcfblcgdjhpdaaa
