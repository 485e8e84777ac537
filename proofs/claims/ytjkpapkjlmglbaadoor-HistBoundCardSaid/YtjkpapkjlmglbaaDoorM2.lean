/- 'is', 'at': a page that stands already. -/
import Derived.Test.YtjkpapkjlmglbaaDoorM1
namespace Go.Proofs.YtjkpapkjlmglbaaDoor
open Go.RowKit
set_option linter.unusedVariables false
set_option linter.unusedSimpArgs false
attribute [local go_sem] cell_set set_set m_undef

theorem neqM (w : World) (r : Nat) : (binOp .neq 43 (.map (some r)) (.map none)).run Tryd.prog w = .ok (.bool true) w := by
  simpa using run_neq_map_nil (P := Tryd.prog) w 43 3 61 (some r) Tryd.underlying43
attribute [local go_sem] neqM
theorem wIs (w : World) (base mb : Nat) (M : List UInt8) (O : Nat → Prop) (h : MemP w base mb M O) : Calls Tryd.prog 26 #[.pointer (some ⟨mb, 0, none⟩)] w fun e w' => e = .returned (.bool true) ∧ w = w' := by
  obtain ⟨pb, fb, F, g, hI, hO⟩ := h
  obtain ⟨c1, c2, c3, f1, f2, f3, l1⟩ := hI.own.three
  replace hI := Lib.hid hI
  clear hO
  go_enter Tryd.func26, Tryd.ntmps26
  go_wp2
  go_ret
  exact ⟨rfl, rfl⟩
theorem quo64 (a : Nat) (ha : a < 8192) (w : World) : (binOp .quo 3 (.int .i64 (a : Int)) (.int .i64 64)).run Tryd.prog w = .ok (.int .i64 ((a / 64 : Nat) : Int)) w := by
  go_simp
  rw [IntKind.wrap_i64]; omega
section
variable {ops : Array Oper} {rest : List Oper} {o : Oper} {a : Act} {Q : Exit → Act → World → Prop}
theorem lookup_old (w : World) (hg : o.guard = none) (m x : Operand) (hop : o.op = Op.lookup 43 m x true) (pb n : Nat) (D : DataW Unit) (hm : a.eval m = .map (some pb)) (hD : w.ownsMap Tryd.prog 3 ptrR pb n D) (key : Value) (kl : Lit) (hx : a.eval x = key) (hkey : keyOf Tryd.prog 3 key = some kl)
    (b : Nat) (hhas : Maps.has D kl = true) (hat : D.atKey kl .nil = .lit (.int .i64 (b : Int))) (hK : wpList Tryd.prog ops Q rest (a.put o.dst (.tuple #[.pointer (some ⟨b, 0, none⟩), .bool true])) w) : wpList Tryd.prog ops Q (o :: rest) a w :=
  wpList_lookup_own_ok w hg m x 43 hop 3 61 pagesK Tryd.underlying43 ptrR (zeroP _) .nil [] rfl pb n D hm hD key kl hx hkey (fun v ps hv => by
    rw [hat] at hv
    obtain rfl := ptrR_some hv
    rw [hhas]
    exact hK)
theorem lookup_new (w : World) (hg : o.guard = none) (m x : Operand) (hop : o.op = Op.lookup 43 m x true) (pb n : Nat) (D : DataW Unit) (hm : a.eval m = .map (some pb)) (hD : w.ownsMap Tryd.prog 3 ptrR pb n D) (key : Value) (kl : Lit) (hx : a.eval x = key) (hkey : keyOf Tryd.prog 3 key = some kl)
    (hhas : Maps.has D kl = false) (hK : wpList Tryd.prog ops Q rest (a.put o.dst (.tuple #[.pointer none, .bool false])) w) : wpList Tryd.prog ops Q (o :: rest) a w :=
  wpList_lookup_own_ok w hg m x 43 hop 3 61 pagesK Tryd.underlying43 ptrR (zeroP _) .nil [] rfl pb n D hm hD key kl hx hkey (fun v ps hv => by
    rw [Maps.atKey_of_not_has hhas] at hv
    obtain rfl := ptrR_nil hv
    rw [hhas]
    exact hK)
end
set_option maxRecDepth 100000 in
set_option maxHeartbeats 1000000 in
theorem at_old (w : World) (base mb pb fb : Nat) (F M : List UInt8) (g : Nat → Option Nat) (hI : MemI w base mb pb fb F M g) (a : Nat) (ha : a < 8192) (b : Nat) (hg : g (a / 64) = some b) :
    Calls Tryd.prog 27 #[.pointer (some ⟨mb, 0, none⟩), .int .i64 (a : Int)] w fun e w' => e = .returned (.pointer (some ⟨b, 0, none⟩)) ∧ w = w' := by
  obtain ⟨c1, c2, c3, f1, f2, f3, l1⟩ := hI.own.three
  obtain ⟨D, hD, hPG⟩ := hI.map
  have hk : a / 64 < 128 := by omega
  obtain ⟨hhas, hat⟩ := (hPG (a / 64) hk).2 b hg
  have hkey : keyOf Tryd.prog 3 (.int .i64 ((a : Int) / 64)) = some (.int .i64 ((a / 64 : Nat) : Int)) := by
    have := keyP (a / 64) hk
    rw [show ((a / 64 : Nat) : Int) = (a : Int) / 64 by omega] at this ⊢
    exact this
  have w1 : IntKind.i64.wrap ((a : Int) / 64) = (a : Int) / 64 := by rw [IntKind.wrap_i64]; omega
  clear hk hg
  replace hI := Lib.hid hI
  replace hPG := Lib.hid hPG
  go_enter Tryd.func27, Tryd.ntmps27
  go_upto_region 3 with (at_lookup; refine lookup_old _ rfl _ _ rfl pb _ D rfl hD _ _ rfl hkey b hhas hat ?_)
  go_wp2
  go_ret
  exact ⟨rfl, rfl⟩
end Go.Proofs.YtjkpapkjlmglbaaDoor
