/-
  The fuse seat: two boxes that lie apart: each is turned alone.
-/
import Derived.Test.YtckmjglomofooaaFn
namespace Go.Proofs.Ytckmjglomofooaa
open Go.RowKit

/-- Two boxes of w, apart from each other; but for what P names, w is as wS was. -/
def Two (wS : World) (P : Nat → Prop) (w : World) (a b : Nat) (most rest na : Int) (sa : Int → Int → Int) (nb : Int) (sb : Int → Int → Int) : Prop :=
  ∃ FA FB', FB w a most rest na sa FA ∧ FB w b most rest nb sb FB' ∧ (∀ k, FA k → ¬ FB' k) ∧ (∀ k, FA k → P k) ∧ (∀ k, FB' k → P k) ∧ (∀ k, wS.heap.size ≤ k → P k) ∧ Fr wS w P

section
variable {wS w : World} {P : Nat → Prop} {a b : Nat} {most rest na nb : Int} {sa sb : Int → Int → Int}

theorem Two.swap (h : Two wS P w a b most rest na sa nb sb) : Two wS P w b a most rest nb sb na sa := by
  obtain ⟨FA, FB', h1, h2, h3, h4, h5, h6, h7⟩ := h
  exact ⟨FB', FA, h2, h1, fun k hb ha => h3 k ha hb, h5, h4, h6, h7⟩

theorem Two.frame (h : Two wS P w a b most rest na sa nb sb) : Fr wS w P := by
  obtain ⟨FA, FB', h1, h2, h3, h4, h5, h6, h7⟩ := h
  exact h7

theorem Two.cell (h : Two wS P w a b most rest na sa nb sb) {p : Addr} {v : Value} (ha : wS.cell? p = some v) (hP : ¬ P p.block) : w.cell? p = some v := by
  rw [World.cell?_of_block (h.frame.block p.block (World.block_lt_of_cell? _ _ ha) hP)]
  exact ha

theorem Two.quiet (h : Two wS P w a b most rest na sa nb sb) {w' : World} (hf : Fr w w' (fun _ => False)) : Two wS P w' a b most rest na sa nb sb := by
  obtain ⟨FA, FB', h1, h2, h3, h4, h5, h6, h7⟩ := h
  exact ⟨FA, FB', h1.kept hf (fun _ _ h => h), h2.kept hf (fun _ _ h => h), h3, h4, h5, h6, h7.trans hf (fun _ _ h => h.elim)⟩

theorem FB.lt {w : World} {b : Nat} {most rest now : Int} {st : Int → Int → Int} {F : Nat → Prop} (h : FB w b most rest now st F) : ∀ k, F k → k < w.heap.size := by
  obtain ⟨_, _, _, _, _, h4⟩ := h
  exact h4

theorem Two.turn {w' : World} {FA FB' : Nat → Prop} {t : Int} {s' : Int → Int → Int} (h2 : FB w b most rest nb sb FB') (h3 : ∀ k, FA k → ¬ FB' k) (h4 : ∀ k, FA k → P k) (h5 : ∀ k, FB' k → P k) (h6 : ∀ k, wS.heap.size ≤ k → P k) (h7 : Fr wS w P)
    (k1 : FB w' a most rest t s' (grow FA w w')) (k2 : Fr w w' FA) : Two wS P w' a b most rest t s' nb sb := by
  refine ⟨_, FB', k1, h2.kept k2 (fun k hb ha => h3 k ha hb), fun k hk hb => ?_, fun k hk => ?_, h5, h6, h7.trans k2 (fun k _ hk => h4 k hk)⟩
  · rcases hk with hk | ⟨hk, _⟩
    · exact h3 k hk hb
    · exact Nat.not_le_of_lt (h2.lt k hb) hk
  · rcases hk with hk | ⟨hk, _⟩
    · exact h4 k hk
    · exact h6 k (Nat.le_trans h7.size hk)

theorem Two.does (h : Two wS P w a b most rest na sa nb sb) (sp what on tick t : Int) (hs0 : -9223372036854775808 ≤ sp) (hs1 : sp ≤ 9223372036854775807) (hw0 : -9223372036854775808 ≤ what) (hw1 : what ≤ 9223372036854775807)
    (ht0 : 0 ≤ tick) (ht1 : tick ≤ 4503599627370496) (ht : max na tick = t) :
    Calls Try.prog 19 #[.pointer (some ⟨a, 0, none⟩), .agg #[.int .i64 sp, .int .i64 what, .int .i64 on], .int .i64 tick] w fun e w' => e = .returned (.int .i64 (doR (what % 5) (sa (sp % 9 / 3) (sp % 9 % 3)) t)) ∧
      Two wS P w' a b most rest t (upd sa (sp % 9 / 3) (sp % 9 % 3) (doN (what % 5) (sa (sp % 9 / 3) (sp % 9 % 3)) t most rest)) nb sb := by
  obtain ⟨FA, FB', h1, h2, h3, h4, h5, h6, h7⟩ := h
  refine (does_fb h1 sp what on tick hs0 hs1 hw0 hw1 ht0 ht1).mono ?_
  rintro e w' ⟨t', ht', rfl, k1, k2⟩
  rw [ht] at ht'
  subst ht'
  exact ⟨rfl, Two.turn h2 h3 h4 h5 h6 h7 k1 k2⟩

theorem Two.ask (h : Two wS P w a b most rest na sa nb sb) (d l tick t : Int) (hok : ¬ BadAt d l tick) (ht : max na tick = t) :
    Calls Try.prog 14 #[.pointer (some ⟨a, 0, none⟩), .agg #[.int .i64 d, .int .i64 l], .int .i64 tick] w fun e w' => e = .returned (.int .i64 (askR (sa d l) t)) ∧ Two wS P w' a b most rest t (upd sa d l (askN (sa d l) t rest)) nb sb := by
  obtain ⟨FA, FB', h1, h2, h3, h4, h5, h6, h7⟩ := h
  refine (ask_fb h1 d l tick hok).mono ?_
  rintro e w' ⟨t', ht', rfl, k1, k2⟩
  rw [ht] at ht'
  subst ht'
  exact ⟨rfl, Two.turn h2 h3 h4 h5 h6 h7 k1 k2⟩

theorem Two.ask_bad (h : Two wS P w a b most rest na sa nb sb) (d l tick : Int) (hbad : BadAt d l tick) :
    Calls Try.prog 14 #[.pointer (some ⟨a, 0, none⟩), .agg #[.int .i64 d, .int .i64 l], .int .i64 tick] w fun e w' => e = .returned (.int .i64 9) ∧ Two wS P w' a b most rest na sa nb sb := by
  have h0 := h
  obtain ⟨FA, FB', h1, h2, h3, h4, h5, h6, h7⟩ := h
  refine (Go.Proofs.Ytckmjglomofooaa.ask_bad h1 d l tick hbad).mono ?_
  rintro e w' ⟨rfl, hf⟩
  exact ⟨rfl, h0.quiet hf⟩

theorem Two.did_bad (h : Two wS P w a b most rest na sa nb sb) (d l tick : Int) (well : Bool) (hbad : BadAt d l tick) :
    Calls Try.prog 12 #[.pointer (some ⟨a, 0, none⟩), .agg #[.int .i64 d, .int .i64 l], .bool well, .int .i64 tick] w fun e w' => e = .returned (.int .i64 9) ∧ Two wS P w' a b most rest na sa nb sb := by
  have h0 := h
  obtain ⟨FA, FB', h1, h2, h3, h4, h5, h6, h7⟩ := h
  refine (Go.Proofs.Ytckmjglomofooaa.did_bad h1 d l tick well hbad).mono ?_
  rintro e w' ⟨rfl, hf⟩
  exact ⟨rfl, h0.quiet hf⟩

theorem Two.tick (h : Two wS P w a b most rest na sa nb sb) : Calls Try.prog 23 #[.pointer (some ⟨a, 0, none⟩)] w fun e w' => e = .returned (.int .i64 na) ∧ w = w' := by
  obtain ⟨FA, FB', h1, h2, h3, h4, h5, h6, h7⟩ := h
  exact tick_fb h1

theorem Two.state (h : Two wS P w a b most rest na sa nb sb) (d l : Int) (hd : (Lit.int .i64 d).wf = true) (hl : (Lit.int .i64 l).wf = true) :
    Calls Try.prog 20 #[.pointer (some ⟨a, 0, none⟩), .agg #[.int .i64 d, .int .i64 l]] w fun e w' => e = .returned (.tuple #[.int .i64 (stS (sa d l)), .int .i64 (stF (sa d l)), .int .i64 (stU (sa d l))]) ∧ Two wS P w' a b most rest na sa nb sb := by
  have h0 := h
  obtain ⟨FA, FB', h1, h2, h3, h4, h5, h6, h7⟩ := h
  refine (state_fb h1 d l hd hl).mono ?_
  rintro e w' ⟨rfl, hf⟩
  exact ⟨rfl, h0.quiet hf⟩

theorem Two.stands (h : Two wS P w a b most rest na sa nb sb) (d l s f u : Int) (hd : (Lit.int .i64 d).wf = true) (hl : (Lit.int .i64 l).wf = true) :
    Calls Try.prog 21 #[.pointer (some ⟨a, 0, none⟩), .agg #[.int .i64 d, .int .i64 l], .int .i64 s, .int .i64 f, .int .i64 u] w fun e w' => e = .returned (.bool (standsB (sa d l) s f u)) ∧ Two wS P w' a b most rest na sa nb sb := by
  have h0 := h
  obtain ⟨FA, FB', h1, h2, h3, h4, h5, h6, h7⟩ := h
  refine (stands_fb h1 d l s f u hd hl).mono ?_
  rintro e w' ⟨rfl, hf⟩
  exact ⟨rfl, h0.quiet hf⟩
end

theorem standsB_self (n : Int) : standsB n (stS n) (stF n) (stU n) = true := by simp [standsB]

theorem FBox.fresh0 {w : World} {b bm : Nat} {most rest : Int} (h : FBox w b most rest 0 bm []) : FB w b most rest 0 (fun _ _ => 0) (fun k => k = b ∨ k = bm) := by
  refine ⟨bm, [], h, fun _ _ => rfl, fun k hk => ?_, fun k hk => ?_⟩
  · rcases hk with hk | hk | ⟨e, he, _⟩
    · exact .inl hk
    · exact .inr hk
    · cases he
  · rcases hk with rfl | rfl
    · exact h.fuseLt _ (.inl rfl)
    · exact h.fuseLt _ (.inr (.inl rfl))

theorem Two.start {w0 w1 wS : World} {P : Nat → Prop} {a am b bm : Nat} {most rest : Int} (h1 : FBox w0 a most rest 0 am []) (h2 : FBox w1 b most rest 0 bm []) (hB : Below w0.heap.size w0 w1) (hb1 : w0.heap.size ≤ b) (hb2 : w0.heap.size ≤ bm)
    (f : Fr w1 wS (fun _ => False)) (p1 : P a) (p2 : P am) (p3 : P b) (p4 : P bm) (p5 : ∀ k, wS.heap.size ≤ k → P k) : Two wS P wS a b most rest 0 (fun _ _ => 0) 0 (fun _ _ => 0) := by
  have g1 := (h1.fresh0.kept (Fr.below hB (Nat.le_refl _) (fun _ => False)) (fun _ _ h => h)).kept f (fun _ _ h => h)
  have g2 := h2.fresh0.kept f (fun _ _ h => h)
  have l1 := h1.fresh0.lt
  refine ⟨_, _, g1, g2, fun k hk hk2 => ?_, fun k hk => ?_, fun k hk => ?_, p5, Fr.refl _ _⟩
  · have := l1 k hk
    rcases hk2 with rfl | rfl <;> omega
  · rcases hk with rfl | rfl
    · exact p1
    · exact p2
  · rcases hk with rfl | rfl
    · exact p3
    · exact p4
end Go.Proofs.Ytckmjglomofooaa
