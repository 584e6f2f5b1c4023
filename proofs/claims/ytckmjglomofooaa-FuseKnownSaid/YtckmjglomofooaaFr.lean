/-
  The fuse seat: two boxes: the calls that came in; the contracts with what they come to named.
-/
import Derived.Test.YtckmjglomofooaaFo
import Derived.Deep.Cut
import Derived.Deep.CutRange
import Derived.Deep.LoopGhost
import Derived.Deep.RegionHeld3
import Derived.Laws.StructEq
namespace Go.Proofs.Ytckmjglomofooaa
open Go.RowKit

/-- A slice of calls that came in: each of three numbers in their range. -/
def CallsAt (w : World) (p : Option Addr) (len : Nat) : Prop :=
  0 < len → ∃ b off, p = some ⟨b, off, none⟩ ∧ b < w.heap.size ∧ ∀ j, j < len → ∃ x y z, w.cell? ⟨b, off + j * 3, none⟩ = some (.int .i64 x) ∧ w.cell? ⟨b, off + j * 3 + 1, none⟩ = some (.int .i64 y) ∧ w.cell? ⟨b, off + j * 3 + 2, none⟩ = some (.int .i64 z) ∧
    (-9223372036854775808 ≤ x ∧ x ≤ 9223372036854775807) ∧ (-9223372036854775808 ≤ y ∧ y ≤ 9223372036854775807) ∧ -9223372036854775808 ≤ z ∧ z ≤ 9223372036854775807

section
variable {w0 wS w : World} {P : Nat → Prop} {a b : Nat} {most rest na nb : Int} {sa sb : Int → Int → Int}

theorem Two.old {B : Nat} (hB : Below B w0 wS) (h : Two wS P w a b most rest na sa nb sb) {p : Addr} {v : Value} (hp : p.block < B) (hP : ¬ P p.block) (hc : w0.cell? p = some v) : w.cell? p = some v :=
  h.cell (by rw [hB.cell hp]; exact hc) hP

theorem Two.asks (h : Two wS P w a b most rest na sa nb sb) (d l tick t r : Int) (s' : Int → Int → Int) (hok : ¬ BadAt d l tick) (ht : max na tick = t) (hr : askR (sa d l) t = r) (hs : upd sa d l (askN (sa d l) t rest) = s') :
    Calls Try.prog 14 #[.pointer (some ⟨a, 0, none⟩), .agg #[.int .i64 d, .int .i64 l], .int .i64 tick] w fun e w' => e = .returned (.int .i64 r) ∧ Two wS P w' a b most rest t s' nb sb := by
  subst hr; subst hs
  exact h.ask d l tick t hok ht

theorem Two.doest (h : Two wS P w a b most rest na sa nb sb) (sp what on tick t r : Int) (s' : Int → Int → Int) (hs0 : -9223372036854775808 ≤ sp) (hs1 : sp ≤ 9223372036854775807) (hw0 : -9223372036854775808 ≤ what) (hw1 : what ≤ 9223372036854775807)
    (ht0 : 0 ≤ tick) (ht1 : tick ≤ 4503599627370496) (ht : max na tick = t) (hr : doR (what % 5) (sa (sp % 9 / 3) (sp % 9 % 3)) t = r) (hs : upd sa (sp % 9 / 3) (sp % 9 % 3) (doN (what % 5) (sa (sp % 9 / 3) (sp % 9 % 3)) t most rest) = s') :
    Calls Try.prog 19 #[.pointer (some ⟨a, 0, none⟩), .agg #[.int .i64 sp, .int .i64 what, .int .i64 on], .int .i64 tick] w fun e w' => e = .returned (.int .i64 r) ∧ Two wS P w' a b most rest t s' nb sb := by
  subst hr; subst hs
  exact h.does sp what on tick t hs0 hs1 hw0 hw1 ht0 ht1 ht

theorem Two.stood (h : Two wS P w a b most rest na sa nb sb) (d l s f u : Int) (hd : (Lit.int .i64 d).wf = true) (hl : (Lit.int .i64 l).wf = true) (hs : stS (sa d l) = s) (hf : stF (sa d l) = f) (hu : stU (sa d l) = u) :
    Calls Try.prog 21 #[.pointer (some ⟨a, 0, none⟩), .agg #[.int .i64 d, .int .i64 l], .int .i64 s, .int .i64 f, .int .i64 u] w fun e w' => e = .returned (.bool true) ∧ Two wS P w' a b most rest na sa nb sb := by
  subst hs; subst hf; subst hu
  have := h.stands d l (stS (sa d l)) (stF (sa d l)) (stU (sa d l)) hd hl
  rw [standsB_self] at this
  exact this

theorem Two.doesq (h : Two wS P w a b most rest na sa nb sb) (sp q what on tick t r : Int) (s' : Int → Int → Int) (hq : sp % 9 = q) (hs0 : -9223372036854775808 ≤ sp) (hs1 : sp ≤ 9223372036854775807) (hw0 : -9223372036854775808 ≤ what) (hw1 : what ≤ 9223372036854775807)
    (ht0 : 0 ≤ tick) (ht1 : tick ≤ 4503599627370496) (ht : max na tick = t) (hr : doR (what % 5) (sa (q / 3) (q % 3)) t = r) (hs : upd sa (q / 3) (q % 3) (doN (what % 5) (sa (q / 3) (q % 3)) t most rest) = s') :
    Calls Try.prog 19 #[.pointer (some ⟨a, 0, none⟩), .agg #[.int .i64 sp, .int .i64 what, .int .i64 on], .int .i64 tick] w fun e w' => e = .returned (.int .i64 r) ∧ Two wS P w' a b most rest t s' nb sb := by
  subst hq
  exact h.doest sp what on tick t r s' hs0 hs1 hw0 hw1 ht0 ht1 ht hr hs
end

theorem spot_q (sp q : Int) (hq : sp % 9 = q) (h0 : -9223372036854775808 ≤ sp) (h1 : sp ≤ 9223372036854775807) (w : World) :
    Calls Try.prog 18 #[.int .i64 sp] w fun e w' => e = .returned (.agg #[.int .i64 (q / 3), .int .i64 (q % 3)]) ∧ Fr w w' (fun _ => False) := by
  subst hq
  exact spot_any sp h0 h1 w
end Go.Proofs.Ytckmjglomofooaa
