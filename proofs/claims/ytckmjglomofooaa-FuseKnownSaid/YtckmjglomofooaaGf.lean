/-
  The fuse seat: the reference box: set, plainly.
-/
import Derived.Test.YtckmjglomofooaaGe
namespace Go.Proofs.Ytckmjglomofooaa
open Go.RowKit

theorem insR_split (x : Rfz) : ∀ (L : List Rfz) (k : Nat), k ≤ L.length → (∀ j y, j < k → L[j]? = some y → bef y.d y.l x.d x.l) → (∀ y, L[k]? = some y → ¬ bef y.d y.l x.d x.l) →
    insR L x = L.take k ++ ((if x.n ≠ 0 then [x] else []) ++ L.drop (if (∃ y, L[k]? = some y ∧ y.d = x.d ∧ y.l = x.l) then k + 1 else k))
  | [], k, hk, _, _ => by
    have : k = 0 := by simpa using hk
    subst this
    unfold insR
    simp
  | y :: L, 0, _, _, h2 => by
    have hb := h2 y rfl
    unfold insR
    rw [if_neg hb]
    by_cases hs : y.d = x.d ∧ y.l = x.l
    · rw [if_pos hs]
      simp
      rw [if_pos hs]
      rfl
    · rw [if_neg hs]
      simp
      rw [if_neg hs]
      rfl
  | y :: L, k + 1, hk, h1, h2 => by
    have hb := h1 0 y (by omega) rfl
    have ih := insR_split x L k (by simpa using hk) (fun j z hj hz => h1 (j + 1) z (by omega) (by simpa using hz)) (fun z hz => h2 z (by simpa using hz))
    rw [show insR (y :: L) x = y :: insR L x by rw [insR]; exact if_pos hb]
    rw [ih]
    simp only [List.getElem?_cons_succ, List.take_succ_cons, List.cons_append]
    congr 3
    split <;> simp
end Go.Proofs.Ytckmjglomofooaa
