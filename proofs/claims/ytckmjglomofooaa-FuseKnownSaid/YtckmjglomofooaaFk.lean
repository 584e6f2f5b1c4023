/-
  The fuse seat: a box of which one spot alone is spoken of: step by step; the chapter's own box (works).
-/
import Derived.Test.YtckmjglomofooaaFj
namespace Go.Proofs.Ytckmjglomofooaa
open Go.RowKit

theorem state_fb {w : World} {b : Nat} {most rest now : Int} {st : Int → Int → Int} {F : Nat → Prop} (h : FB w b most rest now st F) (d l : Int) (hd : (Lit.int .i64 d).wf = true) (hl : (Lit.int .i64 l).wf = true) :
    Calls Try.prog 20 #[.pointer (some ⟨b, 0, none⟩), .agg #[.int .i64 d, .int .i64 l]] w fun e w' => e = .returned (.tuple #[.int .i64 (stS (st d l)), .int .i64 (stF (st d l)), .int .i64 (stU (st d l))]) ∧ Fr w w' (fun _ => False) := by
  obtain ⟨bm, m, h1, h2, h3, h4⟩ := h
  refine (state_raw h1 d l hd hl).mono ?_
  rintro e w' ⟨rfl, n, rfl⟩
  rw [h2]
  exact ⟨rfl, ((Fr.refl w _).alloc _).drewN n⟩

theorem stands_fb {w : World} {b : Nat} {most rest now : Int} {st : Int → Int → Int} {F : Nat → Prop} (h : FB w b most rest now st F) (d l s f u : Int) (hd : (Lit.int .i64 d).wf = true) (hl : (Lit.int .i64 l).wf = true) :
    Calls Try.prog 21 #[.pointer (some ⟨b, 0, none⟩), .agg #[.int .i64 d, .int .i64 l], .int .i64 s, .int .i64 f, .int .i64 u] w fun e w' => e = .returned (.bool (standsB (st d l) s f u)) ∧ Fr w w' (fun _ => False) := by
  obtain ⟨bm, m, h1, h2, h3, h4⟩ := h
  refine (stands_raw h1 d l s f u hd hl).mono ?_
  rintro e w' ⟨rfl, hf⟩
  rw [h2]
  exact ⟨rfl, hf⟩

theorem tick_fb {w : World} {b : Nat} {most rest now : Int} {st : Int → Int → Int} {F : Nat → Prop} (h : FB w b most rest now st F) :
    Calls Try.prog 23 #[.pointer (some ⟨b, 0, none⟩)] w fun e w' => e = .returned (.int .i64 now) ∧ w = w' := by
  obtain ⟨bm, m, h1, h2, h3, h4⟩ := h
  exact tick_box h1

/-- Which spots a box has, in their order. -/
structure SpotsOf (st : Int → Int → Int) (l : List (Int × Int)) : Prop where
  mem : ∀ d k, (d, k) ∈ l ↔ st d k ≠ 0
  sorted : l.Pairwise (fun x y => ltOf cmpS x y = true)

theorem sorted_strict {l : List (Int × Int)} (hn : l.Nodup) : (sortS l).Pairwise (fun x y => ltOf cmpS x y = true) := by
  have h1 : (sortS l).Pairwise (fun x y => (!ltOf cmpS y x) = true) := List.pairwise_mergeSort (fun a b c h1 h2 => by
      simp only [Bool.not_eq_true'] at *
      exact swoS.ntrans c b a h2 h1) (fun a b => by
      cases h1 : ltOf cmpS b a
      · simp
      · cases h2 : ltOf cmpS a b
        · simp
        · have := swoS.trans a b a h2 h1
          rw [swoS.irrefl] at this
          cases this) _
  have h2 : (sortS l).Nodup := (List.mergeSort_perm l _).nodup_iff.2 hn
  refine (h1.and h2).imp ?_
  rintro a b ⟨k1, k2⟩
  cases h3 : ltOf cmpS a b
  · simp only [Bool.not_eq_true'] at k1
    exact absurd (totS a b h3 k1) k2
  · rfl

theorem spots_fb {w : World} {b : Nat} {most rest now : Int} {st : Int → Int → Int} {F : Nat → Prop} (h : FB w b most rest now st F) :
    Calls Try.prog 22 #[.pointer (some ⟨b, 0, none⟩)] w fun e w' => ∃ v l, e = .returned v ∧ SpotsOf st l ∧ w'.ownsRow w.heap.size 32 2 v l.length (flat l) ∧ Below w.heap.size w w' := by
  obtain ⟨bm, m, h1, h2, h3, h4⟩ := h
  refine (spots_box h1).mono ?_
  rintro e w' ⟨v, l, rfl, rfl, hr, hb⟩
  refine ⟨v, _, rfl, ⟨fun d k => ?_, sorted_strict ?_⟩, hr, hb⟩
  · have hp : (d, k) ∈ sortS ((m.filter (fun x => decide (x.n ≠ 0))).map (fun x => (x.d, x.l))) ↔ (d, k) ∈ (m.filter (fun x => decide (x.n ≠ 0))).map (fun x => (x.d, x.l)) := (List.mergeSort_perm _ _).mem_iff
    rw [hp, ← h2]
    constructor
    · intro hm
      obtain ⟨e, he, heq⟩ := List.mem_map.1 hm
      obtain ⟨he1, he2⟩ := List.mem_filter.1 he
      simp only [Prod.mk.injEq] at heq
      obtain ⟨rfl, rfl⟩ := heq
      rw [val_mem h1.map.keys_nodup he1]
      simpa using he2
    · intro hne
      apply Classical.byContradiction
      intro hnm
      by_cases hex : ∃ e ∈ m, e.d = d ∧ e.l = k
      · obtain ⟨e, he, rfl, rfl⟩ := hex
        rw [val_mem h1.map.keys_nodup he] at hne
        exact hnm (List.mem_map.2 ⟨e, List.mem_filter.2 ⟨he, by simpa using hne⟩, rfl⟩)
      · exact hne (val_none (fun e he hk => hex ⟨e, he, hk⟩))
  · exact (List.Sublist.map _ List.filter_sublist).nodup h1.map.keys_nodup

/-- A box of w, of which the spot (d, l) has number n, and no other one has any; but for what P names, w is as wS was. -/
def Run (wS : World) (P : Nat → Prop) (w : World) (b : Nat) (most rest now d l n : Int) : Prop :=
  ∃ st F, FB w b most rest now st F ∧ st d l = n ∧ (∀ d' l', ¬ (d' = d ∧ l' = l) → st d' l' = 0) ∧ (∀ k, F k → P k) ∧ (∀ k, wS.heap.size ≤ k → P k) ∧ Fr wS w P

theorem Run.cell {wS w : World} {P : Nat → Prop} {b : Nat} {most rest now d l n : Int} (h : Run wS P w b most rest now d l n) {a : Addr} {v : Value} (ha : wS.cell? a = some v) (hP : ¬ P a.block) : w.cell? a = some v := by
  obtain ⟨st, F, _, _, _, _, _, hf⟩ := h
  rw [World.cell?_of_block (hf.block a.block (World.block_lt_of_cell? _ _ ha) hP)]
  exact ha

theorem Run.size {wS w : World} {P : Nat → Prop} {b : Nat} {most rest now d l n : Int} (h : Run wS P w b most rest now d l n) : wS.heap.size ≤ w.heap.size := by
  obtain ⟨st, F, _, _, _, _, _, hf⟩ := h
  exact hf.size

theorem Run.frame {wS w : World} {P : Nat → Prop} {b : Nat} {most rest now d l n : Int} (h : Run wS P w b most rest now d l n) : Fr wS w P := by
  obtain ⟨st, F, _, _, _, _, _, hf⟩ := h
  exact hf

theorem Run.quiet {wS w w' : World} {P : Nat → Prop} {b : Nat} {most rest now d l n : Int} (h : Run wS P w b most rest now d l n) (hf : Fr w w' (fun _ => False)) : Run wS P w' b most rest now d l n := by
  obtain ⟨st, F, h1, h2, h3, h4, h5, h6⟩ := h
  exact ⟨st, F, h1.kept hf (fun _ _ h => h), h2, h3, h4, h5, h6.trans hf (fun _ _ h => h.elim)⟩

theorem Run.turned {wS w w' : World} {P : Nat → Prop} {b : Nat} {most rest d l t n' : Int} {st : Int → Int → Int} {F : Nat → Prop} (h3 : ∀ d' l', ¬ (d' = d ∧ l' = l) → st d' l' = 0) (h4 : ∀ k, F k → P k) (h5 : ∀ k, wS.heap.size ≤ k → P k) (h6 : Fr wS w P)
    (k1 : FB w' b most rest t (upd st d l n') (grow F w w')) (k2 : Fr w w' F) : Run wS P w' b most rest t d l n' := by
  refine ⟨_, _, k1, by simp [upd], fun d' l' hne => ?_, fun k hk => ?_, h5, h6.trans k2 (fun k _ hk => h4 k hk)⟩
  · unfold upd
    rw [if_neg hne]
    exact h3 d' l' hne
  · rcases hk with hk | ⟨hk, _⟩
    · exact h4 k hk
    · exact h5 k (Nat.le_trans h6.size hk)

theorem Run.ask {wS w : World} {P : Nat → Prop} {b : Nat} {most rest now d l n : Int} (h : Run wS P w b most rest now d l n) (tick t r n' : Int) (hok : ¬ BadAt d l tick) (ht : max now tick = t) (hr : askR n t = r) (hn : askN n t rest = n') :
    Calls Try.prog 14 #[.pointer (some ⟨b, 0, none⟩), .agg #[.int .i64 d, .int .i64 l], .int .i64 tick] w fun e w' => e = .returned (.int .i64 r) ∧ Run wS P w' b most rest t d l n' := by
  obtain ⟨st, F, h1, h2, h3, h4, h5, h6⟩ := h
  refine (ask_fb h1 d l tick hok).mono ?_
  rintro e w' ⟨t', ht', rfl, k1, k2⟩
  rw [ht] at ht'
  subst ht'
  rw [h2, hr]
  rw [h2, hn] at k1
  exact ⟨rfl, Run.turned h3 h4 h5 h6 k1 k2⟩

theorem Run.did {wS w : World} {P : Nat → Prop} {b : Nat} {most rest now d l n : Int} (h : Run wS P w b most rest now d l n) (tick : Int) (well : Bool) (t n' : Int) (hok : ¬ BadAt d l tick) (ht : max now tick = t) (hn : didN n well t most rest = n') :
    Calls Try.prog 12 #[.pointer (some ⟨b, 0, none⟩), .agg #[.int .i64 d, .int .i64 l], .bool well, .int .i64 tick] w fun e w' => e = .returned (.int .i64 0) ∧ Run wS P w' b most rest t d l n' := by
  obtain ⟨st, F, h1, h2, h3, h4, h5, h6⟩ := h
  refine (did_fb h1 d l tick well hok).mono ?_
  rintro e w' ⟨t', ht', rfl, k1, k2⟩
  rw [ht] at ht'
  subst ht'
  rw [h2, hn] at k1
  exact ⟨rfl, Run.turned h3 h4 h5 h6 k1 k2⟩

theorem Run.ask_other {wS w : World} {P : Nat → Prop} {b : Nat} {most rest now d l n : Int} (h : Run wS P w b most rest now d l n) (d' l' tick t : Int) (hne : ¬ (d' = d ∧ l' = l)) (hok : ¬ BadAt d' l' tick) (ht : max now tick = t) :
    Calls Try.prog 14 #[.pointer (some ⟨b, 0, none⟩), .agg #[.int .i64 d', .int .i64 l'], .int .i64 tick] w fun e w' => e = .returned (.int .i64 0) ∧ Run wS P w' b most rest t d l n := by
  obtain ⟨st, F, h1, h2, h3, h4, h5, h6⟩ := h
  refine (ask_fb h1 d' l' tick hok).mono ?_
  rintro e w' ⟨t', ht', rfl, k1, k2⟩
  rw [ht] at ht'
  subst ht'
  have hz := h3 d' l' hne
  rw [hz]
  have e1 : upd st d' l' (askN (st d' l') t' rest) = st := by
    rw [hz, askN_whole (by decide)]
    have := upd_same (st := st) (d := d') (l := l')
    rw [hz] at this
    exact this
  rw [e1] at k1
  refine ⟨ret_int (askR_whole (by decide)), st, _, k1, h2, h3, fun k hk => ?_, h5, h6.trans k2 (fun k _ hk => h4 k hk)⟩
  rcases hk with hk | ⟨hk, _⟩
  · exact h4 k hk
  · exact h5 k (Nat.le_trans h6.size hk)

theorem Run.stands {wS w : World} {P : Nat → Prop} {b : Nat} {most rest now d l n : Int} (h : Run wS P w b most rest now d l n) (s f u : Int) (r : Bool) (hd : (Lit.int .i64 d).wf = true) (hl : (Lit.int .i64 l).wf = true) (hr : standsB n s f u = r) :
    Calls Try.prog 21 #[.pointer (some ⟨b, 0, none⟩), .agg #[.int .i64 d, .int .i64 l], .int .i64 s, .int .i64 f, .int .i64 u] w fun e w' => e = .returned (.bool r) ∧ Run wS P w' b most rest now d l n := by
  have h0 := h
  obtain ⟨st, F, h1, h2, h3, h4, h5, h6⟩ := h
  refine (stands_fb h1 d l s f u hd hl).mono ?_
  rintro e w' ⟨rfl, hf⟩
  rw [h2, hr]
  exact ⟨rfl, h0.quiet hf⟩

theorem Run.state {wS w : World} {P : Nat → Prop} {b : Nat} {most rest now d l n : Int} (h : Run wS P w b most rest now d l n) (hd : (Lit.int .i64 d).wf = true) (hl : (Lit.int .i64 l).wf = true) :
    Calls Try.prog 20 #[.pointer (some ⟨b, 0, none⟩), .agg #[.int .i64 d, .int .i64 l]] w fun e w' => e = .returned (.tuple #[.int .i64 (stS n), .int .i64 (stF n), .int .i64 (stU n)]) ∧ Run wS P w' b most rest now d l n := by
  have h0 := h
  obtain ⟨st, F, h1, h2, h3, h4, h5, h6⟩ := h
  refine (state_fb h1 d l hd hl).mono ?_
  rintro e w' ⟨rfl, hf⟩
  rw [h2]
  exact ⟨rfl, h0.quiet hf⟩

theorem Run.tick {wS w : World} {P : Nat → Prop} {b : Nat} {most rest now d l n : Int} (h : Run wS P w b most rest now d l n) :
    Calls Try.prog 23 #[.pointer (some ⟨b, 0, none⟩)] w fun e w' => e = .returned (.int .i64 now) ∧ w = w' := by
  obtain ⟨st, F, h1, h2, h3, h4, h5, h6⟩ := h
  exact tick_fb h1

theorem Run.spots {wS w : World} {P : Nat → Prop} {b : Nat} {most rest now d l : Int} (h : Run wS P w b most rest now d l 0) :
    Calls Try.prog 22 #[.pointer (some ⟨b, 0, none⟩)] w fun e w' => ∃ p cap, e = .returned (.slice p 0 cap) ∧ Run wS P w' b most rest now d l 0 := by
  have h0 := h
  obtain ⟨st, F, h1, h2, h3, h4, h5, h6⟩ := h
  refine (spots_fb h1).mono ?_
  rintro e w' ⟨v, sl, rfl, hs, hr, hb⟩
  have hnil : sl = [] := by
    cases sl with
    | nil => rfl
    | cons x sl =>
      have := (hs.mem x.1 x.2).1 (by simp)
      by_cases hx : x.1 = d ∧ x.2 = l
      · rw [hx.1, hx.2, h2] at this
        exact (this rfl).elim
      · exact (this (h3 _ _ hx)).elim
  subst hnil
  have hq := h0.quiet (Fr.below hb (Nat.le_refl _) (fun _ => False))
  rcases hr.2 with ⟨rfl, _⟩ | ⟨g, cap, cur, rfl, _⟩
  · exact ⟨none, 0, rfl, hq⟩
  · exact ⟨_, cap, rfl, hq⟩
end Go.Proofs.Ytckmjglomofooaa
