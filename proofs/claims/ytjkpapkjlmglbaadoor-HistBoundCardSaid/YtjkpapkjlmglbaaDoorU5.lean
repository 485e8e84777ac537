/- The reference's lines. -/
import Derived.Test.YtjkpapkjlmglbaaDoorU4
namespace Go.Proofs.YtjkpapkjlmglbaaDoor
open Go.RowKit
set_option linter.unusedVariables false
set_option linter.unusedSimpArgs false
attribute [local go_sem] cell_set set_set m_undef

theorem infoS : (Tryd.prog.info? 9).map (fun i => (i.zero, i.size, i.bytes)) = some (some (.string ⟨#[]⟩), 1, 16) := by kernel_rfl
theorem Bs.lit1 (w : World) (c : UInt8) : Bs (w.alloc (.cells #[.int .u8 (c.toNat : Int)] 5)) 0 (.slice (some ⟨w.heap.size, 0, none⟩) 1 1) [c] := Bs.of_blk (l := [c]) (Blk.new _ _ _) rfl
theorem str_app (a b : List UInt8) : ((⟨a.toArray⟩ : ByteArray) ++ (⟨b.toArray⟩ : ByteArray)) = ⟨(a ++ b).toArray⟩ := by
  apply ByteArray.ext
  simp
theorem linesF_drop {t cur : List UInt8} {k : Nat} (hk : k < t.length) : linesF cur (t.drop k) = if t[k] = 10 then cur :: linesF [] (t.drop (k + 1)) else linesF (cur ++ [t[k]]) (t.drop (k + 1)) := by
  rw [List.drop_eq_getElem_cons hk, linesF]
theorem linesF_len : ∀ (l cur : List UInt8), (linesF cur l).length ≤ l.length
  | [], cur => by simp [linesF]
  | c :: l, cur => by
    rw [linesF]
    have := linesF_len l []
    have := linesF_len l (cur ++ [c])
    split <;> simp <;> omega
theorem linesL_len (l : List UInt8) : (linesL l).length ≤ l.length := linesF_len l []
theorem lt_conv (w : World) (l : List UInt8) : ∃ v' w', (convert 9 22 (.string ⟨l.toArray⟩)).run Tryd.prog w = .ok v' w' ∧ Bs w' w.heap.size v' l ∧ Below w.heap.size w w' := by
  obtain ⟨v', w', h1, h2, h3, h4⟩ := Bs.conv (P := Tryd.prog) w ⟨l.toArray⟩ Tryd.underlying9 Tryd.underlying22 Tryd.underlying5 w.heap.size (Nat.le_refl _)
  refine ⟨v', w', h1, ?_, ⟨h3.os, h3.tape, h3.output, h3.size, fun k hk => h3.block k hk (by simp)⟩⟩
  simpa using h2
attribute [local irreducible] textV linesF
set_option maxRecDepth 100000 in
set_option maxHeartbeats 2000000 in
theorem rLines {w : World} {B rb : Nat} {M : List UInt8} {R : Nat → Prop} (h : RefP w B rb M R) (hB : B ≤ w.heap.size) :
    Calls Tryd.prog 11 #[.pointer (some ⟨rb, 0, none⟩)] w fun e w' => RefX w w' B rb R (fun v : Value => v) (fun _ => M) (fun v => .vsN w.heap.size 1 v (linesL (textV M)).length (sl (linesL (textV M)))) e := by
  have hS := Onr.start h hB
  have hTx := Lib.hid (fun (w9 : World) (O : Nat → Prop) (h : RefP w9 B rb M O) (hb : B ≤ w9.heap.size) => rText h hb)
  have hlen := textV_len M
  generalize textV M = t at *
  have hcv := Lib.hid (fun (w9 : World) => lt_conv w9 t)
  have hll := linesL_len t
  clear h hB
  go_enter Tryd.func11, Tryd.ntmps11
  go_wp2_with (first
    | (go_at_call 20; refine (hS.ref (fun O h hb => hTx.out _ _ h hb)).mono ?_; rintro e w2 ⟨rfl, hS2⟩; clear hS; have hS := hS2; clear hS2; obtain ⟨v3, w3, hrn, hv3, hb3⟩ := hcv.out w2; obtain ⟨ad, cap, rfl, hcap⟩ := hv3.len; have hS2 := hS.newBs hb3 hv3; clear hcap hv3 hb3))
  have hsz := Nat.le_trans hS.size (Nat.le_refl _)
  clear hS hrn hsz
  go_loopw [3, 4, 11] (fun o u i wr => ∃ (k : Nat) (cur : List UInt8) (ls : List (List UInt8)), i = .int .i64 (k : Int) ∧ u = .string ⟨cur.toArray⟩ ∧ k ≤ t.length ∧ ls.length ≤ k ∧ cur.length ≤ k ∧ ls ++ linesF cur (t.drop k) = linesL t ∧ Onr w wr B rb M R ((Kp.emp.and (.bs (.slice ad t.length cap) t)).and (.vs 1 o ls.length (sl ls))) ∧ (∀ b, o.ownBlock = some b → w.heap.size ≤ b ∧ ¬ (Kp.emp.and (.bs (.slice ad t.length cap) t)).S b)) (fun o u i _ => (t.length - (intOf i).toNat))
  case atStart => exact ⟨0, [], [], rfl, rfl, Nat.zero_le _, Nat.le_refl _, Nat.le_refl _, rfl, hS2.keep (fun O h => (((Keep.emp _ _).and h.right).and (Keep.vs (Vs.nil _ 0 1) (fun b hb => by cases hb)))), fun b hb => by cases hb⟩
  case round =>
    clear hS2
    obtain ⟨k, cur, ls, rfl, rfl, hk, hlk, hck, hrel2, hS, hown⟩ := hrel
    obtain ⟨ao, co, rfl, hco⟩ := (show Vs _ 0 1 _ _ _ from hS.fact.2).form
    clear hco
    by_cases hlt : k < t.length
    · have t2 : ((k : Int) < (t.length : Int)) = True := eq_true (by omega)
      have i1 : (0 : Int) ≤ (k : Int) := by omega
      have i2 : (k : Int) < (t.length : Int) := by omega
      have wk : IntKind.i64.wrap ((k : Int) + 1) = ((k + 1 : Nat) : Int) := by rw [IntKind.wrap_i64]; omega
      obtain ⟨b, o, c9, he⟩ := (show Bs _ 0 _ _ from hS.fact.1.2).some_of (by intro e; rw [e] at hlt; simp at hlt)
      cases he
      obtain ⟨z0, z1⟩ := (show Bs _ 0 _ _ from hS.fact.1.2).at k hlt
      rw [linesF_drop hlt] at hrel2
      generalize t[k] = c at *
      clear z1
      by_cases hc : c = 10
      · rw [if_pos hc] at hrel2
        have tc : (((c.toNat : Int)) == 10) = true := by rw [hc]; rfl
        have tc' : ((c.toNat : Int) = 10) = True := eq_true (by rw [hc]; rfl)
        have hSa := hS.alloc (.cells #[.string ⟨cur.toArray⟩] 9)
        obtain ⟨v', w9, hrn, hS4, hown4, hsz⟩ := Onr.appendVs (P := Tryd.prog) (ty := 29) hSa hown ((Vs.lit1 _ (.string ⟨cur.toArray⟩) _ rfl).src (t := 29) Tryd.underlying29) Tryd.underlying29 infoS rfl (by omega) (by omega) (by omega)
        have hT4 := Lib.hid (show Onr w w9 B rb M R ((Kp.emp.and (.bs (.slice (some ⟨b, o, none⟩) t.length cap) t)).and (.vs 1 v' (ls ++ [cur]).length (sl (ls ++ [cur])))) from by
          have e1 : (ls ++ [cur]).length = ls.length + 1 := by simp
          have e2 : sl (ls ++ [cur]) = sl ls ++ [.string ⟨cur.toArray⟩] := by simp [sl]
          rw [e1, e2]; exact hS4)
        have hT5 := Lib.hid hown4
        have hT6 := Lib.hid (show (ls ++ [cur]) ++ linesF [] (t.drop (k + 1)) = linesL t by rw [← hrel2]; simp)
        have hT7 := Lib.hid (show (ls ++ [cur]).length ≤ k + 1 by simp; omega)
        have hlt' := Lib.hid hlt
        clear hS hSa hS4 hown hown4 hsz hc hrel2 hk hlt hlk hck
        go_wp2_with (at_builtin; refine wpList_append_bs rfl _ _ 29 rfl hrn rfl rfl ?_)
        go_roundw
        case rel => exact ⟨k + 1, [], _, rfl, rfl, hlt'.out, hT7.out, Nat.zero_le _, hT6.out, hT4.out, hT5.out⟩
        case measure => have := hlt'.out; simp [intOf]; omega
      · rw [if_neg hc] at hrel2
        have hc2 : ¬ ((c.toNat : Int) = 10) := fun h => hc (UInt8.toNat_inj.1 (by have := Int.ofNat_inj.1 h; exact this))
        have tc : (((c.toNat : Int)) == 10) = false := by simp only [beq_eq_false_iff_ne]; exact hc2
        have tc' : ((c.toNat : Int) = 10) = False := eq_false hc2
        have hst := bs_strH (Bs.lit1 wr c)
        have happ := str_app cur [c]
        have hSa := Lib.hid (hS.alloc (.cells #[.int .u8 (c.toNat : Int)] 5))
        have hT5 := Lib.hid hown
        have hT6 := Lib.hid hrel2
        have hT7 := Lib.hid (show ls.length ≤ k + 1 by omega)
        have hlt' := Lib.hid hlt
        have tq : (9223372036854775807 < cur.length + 1) = False := eq_false (by omega)
        have tq' : ((9223372036854775807 : Int) < (cur.length : Int) + 1) = False := eq_false (by omega)
        have hT8 := Lib.hid (show (cur ++ [c]).length ≤ k + 1 by simp; exact hck)
        clear hS hown hc hc2 hrel2 hk hlt hlk hck
        go_wp2
        go_roundw
        case rel => exact ⟨k + 1, cur ++ [c], ls, rfl, by rw [← happ], hlt'.out, hT7.out, hT8.out, hT6.out, hSa.out, hT5.out⟩
        case measure => have := hlt'.out; simp [intOf]; omega
    · have hke : k = t.length := by omega
      subst hke
      have t2 : ((t.length : Int) < (t.length : Int)) = False := eq_false (by omega)
      rw [List.drop_length] at hrel2
      have e0 : linesF cur [] = [] := by delta linesF; rfl
      rw [e0, List.append_nil] at hrel2
      subst hrel2
      clear hlt hk
      go_wp2
      go_ret
      obtain ⟨O', q1, q2, q3, q4⟩ := hS
      exact ⟨_, O', rfl, q1, q2, q3.right.vsN (fun b hb => (hown b hb).1)⟩
end Go.Proofs.YtjkpapkjlmglbaaDoor
