/-
  The fuse seat: a box and the reference box, apart from each other.
-/
import Derived.Test.YtckmjglomofooaaGi
namespace Go.Proofs.Ytckmjglomofooaa
open Go.RowKit

/-- The reference box by what it answers; its blocks; how many fuses at most. -/
def RB (w : World) (m : Nat) (most rest now : Int) (st : Int → Int → Int) (N : Nat) (F : Nat → Prop) : Prop :=
  (1 ≤ most ∧ most ≤ 1000 ∧ 1 ≤ rest ∧ rest ≤ 1000000 ∧ 0 ≤ now ∧ now ≤ 4503599627370496 ∧ ∀ d l, 0 ≤ st d l ∧ st d l ≤ 100000000000000000) ∧ ∃ v L, RBox w m v most rest now L ∧ ROf L st ∧ L.length ≤ N ∧ F m ∧ (∀ g, v.ownBlock = some g → F g) ∧ (∀ k, F k → k < w.heap.size)

theorem RB.lt {w : World} {m : Nat} {most rest now : Int} {st : Int → Int → Int} {N : Nat} {F : Nat → Prop} (h : RB w m most rest now st N F) : ∀ k, F k → k < w.heap.size := by
  obtain ⟨_, _, _, _, _, _, _, _, h⟩ := h
  exact h

theorem RB.kept {w w' : World} {m : Nat} {most rest now : Int} {st : Int → Int → Int} {N : Nat} {F G : Nat → Prop} (h : RB w m most rest now st N F) (hf : Fr w w' G) (hG : ∀ k, F k → ¬ G k) : RB w' m most rest now st N F := by
  obtain ⟨h0, v, L, h1, h2, h3, h4, h5, h6⟩ := h
  exact ⟨h0, v, L, h1.kept hf (hG m h4) (fun g hg => hG g (h5 g hg)), h2, h3, h4, h5, fun k hk => Nat.lt_of_lt_of_le (h6 k hk) hf.size⟩

theorem RB.turn {w w' : World} {m : Nat} {v : Value} {most rest t : Int} {L : List Rfz} {st' : Int → Int → Int} {N : Nat} {F : Nat → Prop} (h0 : 1 ≤ most ∧ most ≤ 1000 ∧ 1 ≤ rest ∧ rest ≤ 1000000 ∧ 0 ≤ t ∧ t ≤ 4503599627370496 ∧ ∀ d l, 0 ≤ st' d l ∧ st' d l ≤ 100000000000000000) (h3 : L.length ≤ N) (h4 : F m) (h5 : ∀ g, v.ownBlock = some g → F g) (h6 : ∀ k, F k → k < w.heap.size)
    (h : RTurn w m v most rest t L st' w') : RB w' m most rest t st' (N + 1) (grow F w w') ∧ Fr w w' F := by
  obtain ⟨v', L', k1, k2, k3, k4, k5⟩ := h
  refine ⟨⟨h0, v', L', k1, k2, by omega, .inl h4, fun g hg => ?_, fun k hk => ?_⟩, k4.mono (fun k _ hk => by subst hk; exact h4)⟩
  · rcases k5 with rfl | k5
    · exact .inl (h5 g hg)
    · refine .inr ⟨k5 g hg, ?_⟩
      exact (k1.row.lt g hg).2
  · rcases hk with hk | ⟨_, hk⟩
    · exact Nat.lt_of_lt_of_le (h6 k hk) k4.size
    · exact hk

/-- A box and the reference box of w, apart from each other; but for what P names, w is as wS was. -/
def Pair (wS : World) (P : Nat → Prop) (w : World) (b m : Nat) (most rest nb : Int) (sb : Int → Int → Int) (nm : Int) (sm : Int → Int → Int) (N : Nat) : Prop :=
  ∃ FA FM, FB w b most rest nb sb FA ∧ RB w m most rest nm sm N FM ∧ (∀ k, FA k → ¬ FM k) ∧ (∀ k, FA k → P k) ∧ (∀ k, FM k → P k) ∧ (∀ k, wS.heap.size ≤ k → P k) ∧ Fr wS w P

section
variable {wS w : World} {P : Nat → Prop} {b m : Nat} {most rest nb nm : Int} {sb sm : Int → Int → Int} {N : Nat}

theorem Pair.frame (h : Pair wS P w b m most rest nb sb nm sm N) : Fr wS w P := by
  obtain ⟨FA, FB', h1, h2, h3, h4, h5, h6, h7⟩ := h
  exact h7

theorem Pair.cell (h : Pair wS P w b m most rest nb sb nm sm N) {p : Addr} {v : Value} (ha : wS.cell? p = some v) (hP : ¬ P p.block) : w.cell? p = some v := by
  rw [World.cell?_of_block (h.frame.block p.block (World.block_lt_of_cell? _ _ ha) hP)]
  exact ha

theorem Pair.quiet (h : Pair wS P w b m most rest nb sb nm sm N) {w' : World} (hf : Fr w w' (fun _ => False)) : Pair wS P w' b m most rest nb sb nm sm N := by
  obtain ⟨FA, FB', h1, h2, h3, h4, h5, h6, h7⟩ := h
  exact ⟨FA, FB', h1.kept hf (fun _ _ h => h), h2.kept hf (fun _ _ h => h), h3, h4, h5, h6, h7.trans hf (fun _ _ h => h.elim)⟩

theorem Pair.turnB {w' : World} {FA FM : Nat → Prop} {t : Int} {s' : Int → Int → Int} (h2 : RB w m most rest nm sm N FM) (h3 : ∀ k, FA k → ¬ FM k) (h4 : ∀ k, FA k → P k) (h5 : ∀ k, FM k → P k) (h6 : ∀ k, wS.heap.size ≤ k → P k) (h7 : Fr wS w P)
    (k1 : FB w' b most rest t s' (grow FA w w')) (k2 : Fr w w' FA) : Pair wS P w' b m most rest t s' nm sm N := by
  refine ⟨_, FM, k1, h2.kept k2 (fun k hb ha => h3 k ha hb), fun k hk hb => ?_, fun k hk => ?_, h5, h6, h7.trans k2 (fun k _ hk => h4 k hk)⟩
  · rcases hk with hk | ⟨hk, _⟩
    · exact h3 k hk hb
    · exact Nat.not_le_of_lt (h2.lt k hb) hk
  · rcases hk with hk | ⟨hk, _⟩
    · exact h4 k hk
    · exact h6 k (Nat.le_trans h7.size hk)

theorem Pair.turnM {w' : World} {FA FM : Nat → Prop} {t : Int} {s' : Int → Int → Int} {N' : Nat} (h1 : FB w b most rest nb sb FA) (h3 : ∀ k, FA k → ¬ FM k) (h4 : ∀ k, FA k → P k) (h5 : ∀ k, FM k → P k) (h6 : ∀ k, wS.heap.size ≤ k → P k) (h7 : Fr wS w P)
    (k1 : RB w' m most rest t s' N' (grow FM w w')) (k2 : Fr w w' FM) : Pair wS P w' b m most rest nb sb t s' N' := by
  refine ⟨FA, _, h1.kept k2 (fun k ha hb => h3 k ha hb), k1, fun k hk hb => ?_, h4, fun k hk => ?_, h6, h7.trans k2 (fun k _ hk => h5 k hk)⟩
  · rcases hb with hb | ⟨hb, _⟩
    · exact h3 k hk hb
    · exact Nat.not_le_of_lt (h1.lt k hk) hb
  · rcases hk with hk | ⟨hk, _⟩
    · exact h5 k hk
    · exact h6 k (Nat.le_trans h7.size hk)

theorem Pair.old {w0 : World} {B : Nat} (hB : Below B w0 wS) (h : Pair wS P w b m most rest nb sb nm sm N) {p : Addr} {v : Value} (hp : p.block < B) (hP : ¬ P p.block) (hc : w0.cell? p = some v) : w.cell? p = some v :=
  h.cell (by rw [hB.cell hp]; exact hc) hP

/-- Ask and Did of the box: what they come to is named. -/
theorem Pair.ask (h : Pair wS P w b m most rest nb sb nm sm N) (d l tick t r : Int) (s' : Int → Int → Int) (hok : ¬ BadAt d l tick) (ht : max nb tick = t) (hr : askR (sb d l) t = r) (hs : upd sb d l (askN (sb d l) t rest) = s') :
    Calls Try.prog 14 #[.pointer (some ⟨b, 0, none⟩), .agg #[.int .i64 d, .int .i64 l], .int .i64 tick] w fun e w' => e = .returned (.int .i64 r) ∧ Pair wS P w' b m most rest t s' nm sm N := by
  subst hr; subst hs
  obtain ⟨FA, FM, h1, h2, h3, h4, h5, h6, h7⟩ := h
  refine (ask_fb h1 d l tick hok).mono ?_
  rintro e w' ⟨t', ht', rfl, k1, k2⟩
  rw [ht] at ht'
  subst ht'
  exact ⟨rfl, Pair.turnB h2 h3 h4 h5 h6 h7 k1 k2⟩

theorem Pair.did (h : Pair wS P w b m most rest nb sb nm sm N) (d l tick : Int) (well : Bool) (t : Int) (s' : Int → Int → Int) (hok : ¬ BadAt d l tick) (ht : max nb tick = t) (hs : upd sb d l (didN (sb d l) well t most rest) = s') :
    Calls Try.prog 12 #[.pointer (some ⟨b, 0, none⟩), .agg #[.int .i64 d, .int .i64 l], .bool well, .int .i64 tick] w fun e w' => e = .returned (.int .i64 0) ∧ Pair wS P w' b m most rest t s' nm sm N := by
  subst hs
  obtain ⟨FA, FM, h1, h2, h3, h4, h5, h6, h7⟩ := h
  refine (did_fb h1 d l tick well hok).mono ?_
  rintro e w' ⟨t', ht', rfl, k1, k2⟩
  rw [ht] at ht'
  subst ht'
  exact ⟨rfl, Pair.turnB h2 h3 h4 h5 h6 h7 k1 k2⟩

theorem Pair.ask_bad (h : Pair wS P w b m most rest nb sb nm sm N) (d l tick : Int) (hbad : BadAt d l tick) :
    Calls Try.prog 14 #[.pointer (some ⟨b, 0, none⟩), .agg #[.int .i64 d, .int .i64 l], .int .i64 tick] w fun e w' => e = .returned (.int .i64 9) ∧ Pair wS P w' b m most rest nb sb nm sm N := by
  have h0 := h
  obtain ⟨FA, FM, h1, h2, h3, h4, h5, h6, h7⟩ := h
  refine (Go.Proofs.Ytckmjglomofooaa.ask_bad h1 d l tick hbad).mono ?_
  rintro e w' ⟨rfl, hf⟩
  exact ⟨rfl, h0.quiet hf⟩

theorem Pair.did_bad (h : Pair wS P w b m most rest nb sb nm sm N) (d l tick : Int) (well : Bool) (hbad : BadAt d l tick) :
    Calls Try.prog 12 #[.pointer (some ⟨b, 0, none⟩), .agg #[.int .i64 d, .int .i64 l], .bool well, .int .i64 tick] w fun e w' => e = .returned (.int .i64 9) ∧ Pair wS P w' b m most rest nb sb nm sm N := by
  have h0 := h
  obtain ⟨FA, FM, h1, h2, h3, h4, h5, h6, h7⟩ := h
  refine (Go.Proofs.Ytckmjglomofooaa.did_bad h1 d l tick well hbad).mono ?_
  rintro e w' ⟨rfl, hf⟩
  exact ⟨rfl, h0.quiet hf⟩

theorem Pair.tick (h : Pair wS P w b m most rest nb sb nm sm N) : Calls Try.prog 23 #[.pointer (some ⟨b, 0, none⟩)] w fun e w' => e = .returned (.int .i64 nb) ∧ w = w' := by
  obtain ⟨FA, FB', h1, h2, h3, h4, h5, h6, h7⟩ := h
  exact tick_fb h1

theorem Pair.state (h : Pair wS P w b m most rest nb sb nm sm N) (d l x y z : Int) (hd : (Lit.int .i64 d).wf = true) (hl : (Lit.int .i64 l).wf = true) (hx : stS (sb d l) = x) (hy : stF (sb d l) = y) (hz : stU (sb d l) = z) :
    Calls Try.prog 20 #[.pointer (some ⟨b, 0, none⟩), .agg #[.int .i64 d, .int .i64 l]] w fun e w' => e = .returned (.tuple #[.int .i64 x, .int .i64 y, .int .i64 z]) ∧ Pair wS P w' b m most rest nb sb nm sm N ∧ Fr w w' (fun _ => False) := by
  subst hx; subst hy; subst hz
  have h0 := h
  obtain ⟨FA, FB', h1, h2, h3, h4, h5, h6, h7⟩ := h
  refine (state_fb h1 d l hd hl).mono ?_
  rintro e w' ⟨rfl, hf⟩
  exact ⟨rfl, h0.quiet hf, hf⟩

theorem Pair.rstate (h : Pair wS P w b m most rest nb sb nm sm N) (d l x y z : Int) (hx : stS (sm d l) = x) (hy : stF (sm d l) = y) (hz : stU (sm d l) = z) :
    Calls Try.prog 30 #[.pointer (some ⟨m, 0, none⟩), .agg #[.int .i64 d, .int .i64 l]] w fun e w' => e = .returned (.tuple #[.int .i64 x, .int .i64 y, .int .i64 z]) ∧ Pair wS P w' b m most rest nb sb nm sm N ∧ Fr w w' (fun _ => False) := by
  subst hx; subst hy; subst hz
  have h0 := h
  obtain ⟨FA, FB', h1, ⟨g0, v, L, g1, g2, g3, g4, g5, g6⟩, h3, h4, h5, h6, h7⟩ := h
  refine (rstate_any g1 g2 d l).mono ?_
  rintro e w' ⟨rfl, hf⟩
  exact ⟨rfl, h0.quiet hf, hf⟩

/-- The reference box's tick. -/
theorem Pair.now (h : Pair wS P w b m most rest nb sb nm sm N) : w.cell? ⟨m, 2, none⟩ = some (.int .i64 nm) := by
  obtain ⟨FA, FB', h1, ⟨g0, v, L, g1, g2, g3, g4, g5, g6⟩, h3, h4, h5, h6, h7⟩ := h
  rw [cell_of_block g1.box]
  rfl
theorem Pair.now_le (h : Pair wS P w b m most rest nb sb nm sm N) : 0 ≤ nb ∧ nb ≤ 4503599627370496 := by
  obtain ⟨FA, FB', ⟨bm, m', g1, g2⟩, _⟩ := h
  exact g1.now1


/-- What Ask comes to, the call that may not be too. -/
def AskTo (rest now : Int) (st : Int → Int → Int) (d l tick t r : Int) (s' : Int → Int → Int) : Prop :=
  (¬ BadAt d l tick ∧ max now tick = t ∧ askR (st d l) t = r ∧ upd st d l (askN (st d l) t rest) = s') ∨ (BadAt d l tick ∧ now = t ∧ r = 9 ∧ st = s')
/-- What Did comes to. -/
def DidTo (most rest now : Int) (st : Int → Int → Int) (d l tick : Int) (well : Bool) (t r : Int) (s' : Int → Int → Int) : Prop :=
  (¬ BadAt d l tick ∧ max now tick = t ∧ r = 0 ∧ upd st d l (didN (st d l) well t most rest) = s') ∨ (BadAt d l tick ∧ now = t ∧ r = 9 ∧ st = s')

theorem Pair.ask_to (h : Pair wS P w b m most rest nb sb nm sm N) {d l tick t r : Int} {s' : Int → Int → Int} (hA : AskTo rest nb sb d l tick t r s') :
    Calls Try.prog 14 #[.pointer (some ⟨b, 0, none⟩), .agg #[.int .i64 d, .int .i64 l], .int .i64 tick] w fun e w' => e = .returned (.int .i64 r) ∧ Pair wS P w' b m most rest t s' nm sm N := by
  rcases hA with ⟨h1, h2, h3, h4⟩ | ⟨h1, rfl, rfl, rfl⟩
  · exact h.ask d l tick t r s' h1 h2 h3 h4
  · exact h.ask_bad d l tick h1

theorem Pair.did_to (h : Pair wS P w b m most rest nb sb nm sm N) {d l tick t r : Int} {well : Bool} {s' : Int → Int → Int} (hA : DidTo most rest nb sb d l tick well t r s') :
    Calls Try.prog 12 #[.pointer (some ⟨b, 0, none⟩), .agg #[.int .i64 d, .int .i64 l], .bool well, .int .i64 tick] w fun e w' => e = .returned (.int .i64 r) ∧ Pair wS P w' b m most rest t s' nm sm N := by
  rcases hA with ⟨h1, h2, rfl, h4⟩ | ⟨h1, rfl, rfl, rfl⟩
  · exact h.did d l tick well t s' h1 h2 h4
  · exact h.did_bad d l tick well h1

theorem askN_bd {n t rest : Int} (hn : 0 ≤ n ∧ n ≤ 100000000000000000) (ht : 0 ≤ t ∧ t ≤ 4503599627370496) (hr : 1 ≤ rest ∧ rest ≤ 1000000) : 0 ≤ askN n t rest ∧ askN n t rest ≤ 100000000000000000 := by
  unfold askN
  split
  · exact hn
  · split
    · exact hn
    · omega

theorem didN_bd {n t most rest : Int} {well : Bool} (hn : 0 ≤ n ∧ n ≤ 100000000000000000) (ht : 0 ≤ t ∧ t ≤ 4503599627370496) (hr : 1 ≤ rest ∧ rest ≤ 1000000) (hm : most ≤ 1000) : 0 ≤ didN n well t most rest ∧ didN n well t most rest ≤ 100000000000000000 := by
  by_cases h1 : n % 4 = 1
  · rw [didN_blown h1]; exact hn
  · cases well
    · by_cases h2 : n % 4 = 0 ∧ n / 4 + 1 < most
      · rw [didN_more h2.1 h2.2]; omega
      · rw [didN_blows h1 h2]; omega
    · rw [didN_well h1]; omega

theorem upd_bd {st : Int → Int → Int} (h : ∀ d l, 0 ≤ st d l ∧ st d l ≤ 100000000000000000) (d l x : Int) (hx : 0 ≤ x ∧ x ≤ 100000000000000000) : ∀ d' l', 0 ≤ upd st d l x d' l' ∧ upd st d l x d' l' ≤ 100000000000000000 := by
  intro d' l'
  unfold upd
  split
  · exact hx
  · exact h d' l'

theorem Pair.more (h : Pair wS P w b m most rest nb sb nm sm N) {N' : Nat} (hN : N ≤ N') : Pair wS P w b m most rest nb sb nm sm N' := by
  obtain ⟨FA, FM, h1, ⟨g0, v, L, g1, g2, g3, g4, g5, g6⟩, h3, h4, h5, h6, h7⟩ := h
  exact ⟨FA, FM, h1, ⟨g0, v, L, g1, g2, by omega, g4, g5, g6⟩, h3, h4, h5, h6, h7⟩

theorem Pair.rask_to (h : Pair wS P w b m most rest nb sb nm sm N) (hN : N ≤ 100000) {d l tick t r : Int} {s' : Int → Int → Int} (hA : AskTo rest nm sm d l tick t r s') :
    Calls Try.prog 15 #[.pointer (some ⟨m, 0, none⟩), .agg #[.int .i64 d, .int .i64 l], .int .i64 tick] w fun e w' => e = .returned (.int .i64 r) ∧ Pair wS P w' b m most rest nb sb t s' (N + 1) := by
  rcases hA with ⟨k1, k2, k3, k4⟩ | ⟨k1, rfl, rfl, rfl⟩
  · subst k3; subst k4
    obtain ⟨FA, FM, h1, ⟨g0, v, L, g1, g2, g3, g4, g5, g6⟩, h3, h4, h5, h6, h7⟩ := h
    obtain ⟨o1, o2, o3, o4, o5, o6, o7⟩ := g0
    refine (rask_any g1 g2 (by omega) o3 o4 o5 o6 d l tick k1).mono ?_
    rintro e w' ⟨t', ht', rfl, R⟩
    rw [k2] at ht'
    subst ht'
    have hb : 0 ≤ t' ∧ t' ≤ 4503599627370496 := by unfold BadAt at k1; omega
    obtain ⟨r1, r2⟩ := RB.turn ⟨o1, o2, o3, o4, hb.1, hb.2, upd_bd o7 _ _ _ (askN_bd (o7 _ _) hb ⟨o3, o4⟩)⟩ g3 g4 g5 g6 R
    exact ⟨rfl, Pair.turnM h1 h3 h4 h5 h6 h7 r1 r2⟩
  · refine (rask_bad d l tick k1).mono ?_
    rintro e w' ⟨rfl, hf⟩
    exact ⟨rfl, (h.quiet hf).more (by omega)⟩

theorem Pair.rdid_to (h : Pair wS P w b m most rest nb sb nm sm N) (hN : N ≤ 100000) {d l tick t r : Int} {well : Bool} {s' : Int → Int → Int} (hA : DidTo most rest nm sm d l tick well t r s') :
    Calls Try.prog 13 #[.pointer (some ⟨m, 0, none⟩), .agg #[.int .i64 d, .int .i64 l], .bool well, .int .i64 tick] w fun e w' => e = .returned (.int .i64 r) ∧ Pair wS P w' b m most rest nb sb t s' (N + 1) := by
  rcases hA with ⟨k1, k2, rfl, k4⟩ | ⟨k1, rfl, rfl, rfl⟩
  · subst k4
    obtain ⟨FA, FM, h1, ⟨g0, v, L, g1, g2, g3, g4, g5, g6⟩, h3, h4, h5, h6, h7⟩ := h
    obtain ⟨o1, o2, o3, o4, o5, o6, o7⟩ := g0
    refine (rdid_any g1 g2 (by omega) o3 o4 o5 o6 d l tick well k1 (o7 _ _)).mono ?_
    rintro e w' ⟨t', ht', rfl, R⟩
    rw [k2] at ht'
    subst ht'
    have hb : 0 ≤ t' ∧ t' ≤ 4503599627370496 := by unfold BadAt at k1; omega
    obtain ⟨r1, r2⟩ := RB.turn ⟨o1, o2, o3, o4, hb.1, hb.2, upd_bd o7 _ _ _ (didN_bd (o7 _ _) hb ⟨o3, o4⟩ o2)⟩ g3 g4 g5 g6 R
    exact ⟨rfl, Pair.turnM h1 h3 h4 h5 h6 h7 r1 r2⟩
  · refine (rdid_bad d l tick well k1).mono ?_
    rintro e w' ⟨rfl, hf⟩
    exact ⟨rfl, (h.quiet hf).more (by omega)⟩
end

theorem AskTo.ex (rest now : Int) (st : Int → Int → Int) (d l tick : Int) : ∃ t r s', AskTo rest now st d l tick t r s' := by
  by_cases h : BadAt d l tick
  · exact ⟨_, _, _, .inr ⟨h, rfl, rfl, rfl⟩⟩
  · exact ⟨_, _, _, .inl ⟨h, rfl, rfl, rfl⟩⟩
theorem DidTo.ex (most rest now : Int) (st : Int → Int → Int) (d l tick : Int) (well : Bool) : ∃ t r s', DidTo most rest now st d l tick well t r s' := by
  by_cases h : BadAt d l tick
  · exact ⟨_, _, _, .inr ⟨h, rfl, rfl, rfl⟩⟩
  · exact ⟨_, _, _, .inl ⟨h, rfl, rfl, rfl⟩⟩

/-- Two strictly rising lists of the same things are one. -/
theorem eq_of_strict {α : Type} {R : α → α → Prop} (has : ∀ a b, R a b → ¬ R b a) : ∀ {l k : List α}, l.Pairwise R → k.Pairwise R → (∀ x, x ∈ l ↔ x ∈ k) → l = k
  | [], [], _, _, _ => rfl
  | [], y :: k, _, _, h => absurd ((h y).2 (by simp)) (by simp)
  | x :: l, [], _, _, h => absurd ((h x).1 (by simp)) (by simp)
  | x :: l, y :: k, hl, hk, h => by
    obtain ⟨l1, l2⟩ := List.pairwise_cons.1 hl
    obtain ⟨k1, k2⟩ := List.pairwise_cons.1 hk
    have irr : ∀ a, ¬ R a a := fun a h => has a a h h
    have hxy : x = y := by
      rcases List.mem_cons.1 ((h x).1 (by simp)) with e | e
      · exact e
      · rcases List.mem_cons.1 ((h y).2 (by simp)) with e' | e'
        · exact e'.symm
        · exact (has _ _ (l1 y e') (k1 x e)).elim
    subst hxy
    rw [eq_of_strict has l2 k2 (fun z => ⟨fun hz => ?_, fun hz => ?_⟩)]
    · rcases List.mem_cons.1 ((h z).1 (by simp [hz])) with e | e
      · subst e; exact (irr _ (l1 _ hz)).elim
      · exact e
    · rcases List.mem_cons.1 ((h z).2 (by simp [hz])) with e | e
      · subst e; exact (irr _ (k1 _ hz)).elim
      · exact e

theorem spots_one {st : Int → Int → Int} {l : List (Int × Int)} {L : List Rfz} (h : SpotsOf st l) (hr : ROf L st) : l = spotsOf L := by
  refine eq_of_strict (R := fun x y => ltOf cmpS x y = true) (fun a b h1 h2 => ?_) h.sorted ?_ (fun x => ?_)
  · rw [ltS, decide_eq_true_eq] at h1 h2
    omega
  · unfold spotsOf
    rw [List.pairwise_map]
    refine hr.sorted.imp (fun {a b} hb => ?_)
    rw [ltS, decide_eq_true_eq]
    exact hb
  · obtain ⟨d, k⟩ := x
    rw [h.mem]
    unfold spotsOf
    rw [List.mem_map]
    constructor
    · intro hn
      exact ⟨⟨d, k, st d k⟩, (hr.mem _ _ _).2 ⟨rfl, hn⟩, rfl⟩
    · rintro ⟨x, hx, he⟩
      simp only [Prod.mk.injEq] at he
      obtain ⟨rfl, rfl⟩ := he
      obtain ⟨h1, h2⟩ := (hr.mem _ _ _).1 hx
      rw [h1]
      exact h2
end Go.Proofs.Ytckmjglomofooaa
