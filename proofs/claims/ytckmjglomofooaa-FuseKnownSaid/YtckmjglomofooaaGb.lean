/-
  The fuse seat: the reference box in memory; its small callees: before, may, New.
-/
import Derived.Test.YtckmjglomofooaaGa
namespace Go.Proofs.Ytckmjglomofooaa
open Go.RowKit

theorem before_any (d l d' l' : Int) (w : World) :
    Calls Try.prog 40 #[.agg #[.int .i64 d, .int .i64 l], .agg #[.int .i64 d', .int .i64 l']] w fun e w' => e = .returned (.bool (decide (bef d l d' l'))) ∧ Fr w w' (fun _ => False) := by
  have k1 : ((w.alloc (.cells #[.int .i64 d, .int .i64 l] 32)).alloc (.cells #[.int .i64 d', .int .i64 l'] 32)).cell? ⟨w.heap.size, 0, none⟩ = some (.int .i64 d) := by simp
  have k2 : ((w.alloc (.cells #[.int .i64 d, .int .i64 l] 32)).alloc (.cells #[.int .i64 d', .int .i64 l'] 32)).cell? ⟨w.heap.size, 1, none⟩ = some (.int .i64 l) := by simp
  have hf : Fr w ((w.alloc (.cells #[.int .i64 d, .int .i64 l] 32)).alloc (.cells #[.int .i64 d', .int .i64 l'] 32)) (fun _ => False) := ((Fr.refl w _).alloc _).alloc _
  have HF := Lib.hid hf
  clear hf
  by_cases h1 : d < d'
  · have e : decide (bef d l d' l') = true := decide_eq_true (.inl h1)
    rw [e]
    clear e
    go_enter Try.func40, Try.ntmps40
    go_wp2
    go_ret
    exact ⟨rfl, HF.out⟩
  · by_cases h2 : d = d'
    · subst h2
      have e : decide (bef d l d l') = decide (l < l') := by unfold bef; simp
      rw [e]
      clear e
      go_enter Try.func40, Try.ntmps40
      go_wp2
      go_ret
      exact ⟨rfl, HF.out⟩
    · have e : decide (bef d l d' l') = false := decide_eq_false (by unfold bef; omega)
      rw [e]
      clear e
      go_enter Try.func40, Try.ntmps40
      go_wp2
      go_ret
      exact ⟨rfl, HF.out⟩

theorem may_ok (d l tick : Int) (hok : ¬ BadAt d l tick) (w : World) : Calls Try.prog 27 #[.agg #[.int .i64 d, .int .i64 l], .int .i64 tick] w fun e w' => e = .returned (.bool true) ∧ Fr w w' (fun _ => False) := by
  have h : 0 ≤ tick ∧ tick ≤ 4503599627370496 ∧ 0 ≤ d ∧ d ≤ 1000 ∧ 0 ≤ l ∧ l ≤ 9 := by unfold BadAt at hok; omega
  clear hok
  obtain ⟨h1, h2, h3, h4, h5, h6⟩ := h
  go_enter Try.func27, Try.ntmps27
  go_wp2
  go_ret
  exact ⟨rfl, (Fr.refl w _).alloc _⟩

theorem may_bad (d l tick : Int) (hbad : BadAt d l tick) (w : World) : Calls Try.prog 27 #[.agg #[.int .i64 d, .int .i64 l], .int .i64 tick] w fun e w' => e = .returned (.bool false) ∧ Fr w w' (fun _ => False) := by
  have h : tick < 0 ∨ (0 ≤ tick ∧ 4503599627370496 < tick) ∨ (0 ≤ tick ∧ tick ≤ 4503599627370496 ∧ d < 0) ∨ (0 ≤ tick ∧ tick ≤ 4503599627370496 ∧ 0 ≤ d ∧ 1000 < d) ∨ (0 ≤ tick ∧ tick ≤ 4503599627370496 ∧ 0 ≤ d ∧ d ≤ 1000 ∧ l < 0) ∨ (0 ≤ tick ∧ tick ≤ 4503599627370496 ∧ 0 ≤ d ∧ d ≤ 1000 ∧ 0 ≤ l ∧ 9 < l) := by unfold BadAt at hbad; omega
  clear hbad
  rcases h with h1 | ⟨h1, h2⟩ | ⟨h1, h2, h3⟩ | ⟨h1, h2, h3, h4⟩ | ⟨h1, h2, h3, h4, h5⟩ | ⟨h1, h2, h3, h4, h5, h6⟩
  all_goals
    go_enter Try.func27, Try.ntmps27
    go_wp2
    go_ret
    exact ⟨by first | rfl | (simp; omega), (Fr.refl w _).alloc _⟩

/-- A fuse's five cells. -/
def encR (x : Rfz) : List Value := [.int .i64 x.d, .int .i64 x.l, .int .i64 (stS x.n), .int .i64 (stF x.n), .int .i64 (stU x.n)]
/-- The cells of a list of fuses. -/
def flatR : List Rfz → List Value
  | [] => []
  | x :: L => encR x ++ flatR L

theorem flatR_length : ∀ L : List Rfz, (flatR L).length = L.length * 5
  | [] => rfl
  | x :: L => by simp [flatR, encR, flatR_length L]; omega
theorem flatR_append : ∀ L L' : List Rfz, flatR (L ++ L') = flatR L ++ flatR L'
  | [], _ => rfl
  | x :: L, L' => by simp [flatR, flatR_append L L']
theorem flatR_take : ∀ (L : List Rfz) (i : Nat), (flatR L).take (i * 5) = flatR (L.take i)
  | [], i => by simp [flatR]
  | x :: L, 0 => by simp [flatR]
  | x :: L, i + 1 => by
    have := flatR_take L i
    rw [List.take_succ_cons]
    show (encR x ++ flatR L).take ((i + 1) * 5) = encR x ++ flatR (L.take i)
    rw [List.take_append, ← this]
    have h5 : (encR x).length = 5 := rfl
    rw [h5, List.take_of_length_le (by rw [h5]; omega)]
    congr 2
    omega
theorem flatR_drop : ∀ (L : List Rfz) (i : Nat), (flatR L).drop (i * 5) = flatR (L.drop i)
  | [], i => by simp [flatR]
  | x :: L, 0 => by simp [flatR]
  | x :: L, i + 1 => by
    have := flatR_drop L i
    rw [List.drop_succ_cons]
    show (encR x ++ flatR L).drop ((i + 1) * 5) = flatR (L.drop i)
    rw [List.drop_append, ← this]
    have h5 : (encR x).length = 5 := rfl
    rw [h5, List.drop_of_length_le (by rw [h5]; omega), List.nil_append]
    congr 1
    omega

/-- The reference box at block m. -/
structure RBox (w : World) (m : Nat) (v : Value) (most rest now : Int) (L : List Rfz) : Prop where
  box : w.heap[m]? = some (.cells #[.int .i64 most, .int .i64 rest, .int .i64 now, v] 37 (0, 0))
  row : w.ownsRow 0 77 5 v L.length (flatR L)
  apart : v.ownBlock ≠ some m

set_option maxRecDepth 100000 in
theorem rnew_ok (most rest : Int) (h1 : 1 ≤ most) (h2 : most ≤ 1000) (h3 : 1 ≤ rest) (h4 : rest ≤ 1000000) (w : World) :
    Calls Try.prog 10 #[.int .i64 most, .int .i64 rest] w fun e w' => ∃ m, e = .returned (.tuple #[.pointer (some ⟨m, 0, none⟩), .int .i64 0]) ∧ RBox w' m (.slice none 0 0) most rest 0 [] ∧ Below w.heap.size w w' ∧ w.heap.size ≤ m := by
  go_enter Try.func10, Try.ntmps10
  go_wp2
  go_ret2
  refine ⟨w.heap.size, rfl, ⟨heap_new w _, World.ownsRow_nil _ _ _ _, by simp [Value.ownBlock]⟩, (Below.refl _ w).alloc (Nat.le_refl _) _, Nat.le_refl _⟩

theorem rnew_bad (most rest : Int) (hb : most < 1 ∨ 1000 < most ∨ rest < 1 ∨ 1000000 < rest) (w : World) :
    Calls Try.prog 10 #[.int .i64 most, .int .i64 rest] w fun e w' => e = .returned (.tuple #[.pointer none, .int .i64 2]) ∧ w = w' := by
  have h : most < 1 ∨ (1 ≤ most ∧ 1000 < most) ∨ (1 ≤ most ∧ most ≤ 1000 ∧ rest < 1) ∨ (1 ≤ most ∧ most ≤ 1000 ∧ 1 ≤ rest ∧ 1000000 < rest) := by omega
  clear hb
  rcases h with h1 | ⟨h1, h2⟩ | ⟨h1, h2, h3⟩ | ⟨h1, h2, h3, h4⟩
  all_goals
    go_enter Try.func10, Try.ntmps10
    go_wp2
    go_ret2
    exact ⟨rfl, rfl⟩
end Go.Proofs.Ytckmjglomofooaa
