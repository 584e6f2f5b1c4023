/-
  The fuse seat: the reference box, plainly: a list of fuses in their order.
-/
import Derived.Test.YtckmjglomofooaaFr
namespace Go.Proofs.Ytckmjglomofooaa
open Go.RowKit

/-- A fuse that is not whole: of which spot; its number. -/
structure Rfz where
  d : Int
  l : Int
  n : Int
deriving DecidableEq

/-- Does a spot come ahead of another one? -/
def bef (d l d' l' : Int) : Prop := d < d' ∨ (d = d' ∧ l < l')
instance (d l d' l' : Int) : Decidable (bef d l d' l') := by unfold bef; infer_instance

theorem bef_trans {a b c d e f : Int} (h1 : bef a b c d) (h2 : bef c d e f) : bef a b e f := by unfold bef at *; omega

/-- A fuse put in its place. -/
def insR (L : List Rfz) (x : Rfz) : List Rfz :=
  match L with
  | [] => if x.n ≠ 0 then [x] else []
  | y :: L' => if bef y.d y.l x.d x.l then y :: insR L' x else (if x.n ≠ 0 then [x] else []) ++ (if y.d = x.d ∧ y.l = x.l then L' else y :: L')

/-- The list is in its order and says what st says. -/
structure ROf (L : List Rfz) (st : Int → Int → Int) : Prop where
  sorted : L.Pairwise (fun x y => bef x.d x.l y.d y.l)
  mem : ∀ d l n, (⟨d, l, n⟩ : Rfz) ∈ L ↔ st d l = n ∧ n ≠ 0

theorem mem_insR {L : List Rfz} (hs : L.Pairwise (fun x y => bef x.d x.l y.d y.l)) (x z : Rfz) : z ∈ insR L x ↔ (z = x ∧ x.n ≠ 0) ∨ (z ∈ L ∧ ¬ (z.d = x.d ∧ z.l = x.l)) := by
  induction L with
  | nil =>
    unfold insR
    by_cases h : x.n ≠ 0
    · rw [if_pos h]; simp [h]
    · rw [if_neg h]; simp [h]
  | cons y L ih =>
    obtain ⟨h1, h2⟩ := List.pairwise_cons.1 hs
    unfold insR
    by_cases hb : bef y.d y.l x.d x.l
    · rw [if_pos hb, List.mem_cons, ih h2, List.mem_cons]
      have hne : ¬ (y.d = x.d ∧ y.l = x.l) := by unfold bef at hb; omega
      constructor
      · rintro (rfl | h | ⟨h, h'⟩)
        · exact .inr ⟨.inl rfl, hne⟩
        · exact .inl h
        · exact .inr ⟨.inr h, h'⟩
      · rintro (h | ⟨rfl | h, h'⟩)
        · exact .inr (.inl h)
        · exact .inl rfl
        · exact .inr (.inr ⟨h, h'⟩)
    · rw [if_neg hb, List.mem_append]
      have e1 : z ∈ (if x.n ≠ 0 then [x] else []) ↔ z = x ∧ x.n ≠ 0 := by
        by_cases h : x.n ≠ 0
        · rw [if_pos h]; simp [h]
        · rw [if_neg h]; simp [h]
      rw [e1]
      have tail : ∀ u ∈ L, ¬ (u.d = x.d ∧ u.l = x.l) := fun u hu he => by
        have := h1 u hu
        unfold bef at this hb
        omega
      by_cases hy : y.d = x.d ∧ y.l = x.l
      · rw [if_pos hy]
        constructor
        · rintro (h | h)
          · exact .inl h
          · exact .inr ⟨List.mem_cons_of_mem _ h, tail z h⟩
        · rintro (h | ⟨h, h'⟩)
          · exact .inl h
          · rcases List.mem_cons.1 h with rfl | h
            · exact (h' hy).elim
            · exact .inr h
      · rw [if_neg hy]
        constructor
        · rintro (h | h)
          · exact .inl h
          · refine .inr ⟨h, ?_⟩
            rcases List.mem_cons.1 h with rfl | h
            · exact hy
            · exact tail z h
        · rintro (h | ⟨h, h'⟩)
          · exact .inl h
          · exact .inr h

theorem insR_sorted {L : List Rfz} (hs : L.Pairwise (fun x y => bef x.d x.l y.d y.l)) (x : Rfz) : (insR L x).Pairwise (fun x y => bef x.d x.l y.d y.l) := by
  induction L with
  | nil =>
    unfold insR
    by_cases h : x.n ≠ 0
    · rw [if_pos h]; simp
    · rw [if_neg h]; simp
  | cons y L ih =>
    obtain ⟨h1, h2⟩ := List.pairwise_cons.1 hs
    unfold insR
    by_cases hb : bef y.d y.l x.d x.l
    · rw [if_pos hb, List.pairwise_cons]
      refine ⟨fun z hz => ?_, ih h2⟩
      rcases (mem_insR h2 x z).1 hz with ⟨rfl, _⟩ | ⟨h, _⟩
      · exact hb
      · exact h1 z h
    · rw [if_neg hb]
      have rest : (if y.d = x.d ∧ y.l = x.l then L else y :: L).Pairwise (fun x y => bef x.d x.l y.d y.l) ∧ ∀ z ∈ (if y.d = x.d ∧ y.l = x.l then L else y :: L), bef x.d x.l z.d z.l := by
        by_cases hy : y.d = x.d ∧ y.l = x.l
        · rw [if_pos hy]
          refine ⟨h2, fun z hz => ?_⟩
          have := h1 z hz
          rw [hy.1, hy.2] at this
          exact this
        · rw [if_neg hy]
          have hxy : bef x.d x.l y.d y.l := by unfold bef at *; omega
          refine ⟨hs, fun z hz => ?_⟩
          rcases List.mem_cons.1 hz with rfl | hz
          · exact hxy
          · exact bef_trans hxy (h1 z hz)
      by_cases h : x.n ≠ 0
      · rw [if_pos h]
        exact List.pairwise_cons.2 ⟨rest.2, rest.1⟩
      · rw [if_neg h]
        exact rest.1

theorem ROf.ins {L : List Rfz} {st : Int → Int → Int} (h : ROf L st) (d l n : Int) : ROf (insR L ⟨d, l, n⟩) (upd st d l n) := by
  refine ⟨insR_sorted h.sorted _, fun d' l' n' => ?_⟩
  rw [mem_insR h.sorted, h.mem]
  unfold upd
  by_cases he : d' = d ∧ l' = l
  · obtain ⟨rfl, rfl⟩ := he
    simp
    constructor
    · rintro ⟨rfl, h2⟩; exact ⟨rfl, h2⟩
    · rintro ⟨rfl, h2⟩; exact ⟨rfl, h2⟩
  · simp only [he, if_false, Rfz.mk.injEq]
    constructor
    · rintro (⟨⟨rfl, rfl, _⟩, _⟩ | ⟨h1, _⟩)
      · exact (he ⟨rfl, rfl⟩).elim
      · exact h1
    · exact fun h1 => .inr ⟨h1, fun h => h⟩

/-- The fuse of a spot, as the list has it. -/
theorem ROf.of_mem {L : List Rfz} {st : Int → Int → Int} (h : ROf L st) {x : Rfz} (hx : x ∈ L) : st x.d x.l = x.n := ((h.mem x.d x.l x.n).1 hx).1
theorem ROf.of_none {L : List Rfz} {st : Int → Int → Int} (h : ROf L st) {d l : Int} (hx : ∀ x ∈ L, ¬ (x.d = d ∧ x.l = l)) : st d l = 0 := by
  apply Classical.byContradiction
  intro hn
  exact hx ⟨d, l, st d l⟩ ((h.mem _ _ _).2 ⟨rfl, hn⟩) ⟨rfl, rfl⟩
end Go.Proofs.Ytckmjglomofooaa
