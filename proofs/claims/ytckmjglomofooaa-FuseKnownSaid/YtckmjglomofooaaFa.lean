/-
  The fuse seat: contracts of the small functions: the atomic number, is, turn, none, Tick, Bring.
-/
import Derived.Test.YtckmjglomofooaaRows
import Derived.WalkKit
import Derived.WalkSpells
import Derived.WalkLawsBesides
import Derived.Laws.LoneSync
import Derived.Lib.Hide
namespace Go.Proofs.Ytckmjglomofooaa
open Go.RowKit

/-- (*atomic.Int64).Load: what the cell holds. -/
theorem load_any (a : Addr) (x : Int) (w : World) (hc : w.cell? a = some (.int .i64 x)) :
    Calls Try.prog 33 #[.pointer (some a)] w fun e w' => e = .returned (.int .i64 x) ∧ w = w' := by
  have hl := run_call_load (P := Try.prog) Try.func41 (by kernel_rfl) (by kernel_rfl) (by kernel_rfl) .i64 (by kernel_rfl) hc
  go_enter Try.func33, Try.ntmps33
  go_wp2
  go_ret
  exact ⟨rfl, rfl⟩

/-- (*atomic.Int64).CompareAndSwap at the number that stands there: it is stored. -/
theorem cas_any (a : Addr) (x y : Int) (w : World) (hc : w.cell? a = some (.int .i64 x)) (hf : w.frozen? a = false) :
    Calls Try.prog 39 #[.pointer (some a), .int .i64 x, .int .i64 y] w fun e w' => e = .returned (.bool true) ∧ w.setCell a (.int .i64 y) = w' := by
  have hl := run_call_cas_hit (P := Try.prog) Try.func46 (by kernel_rfl) (by kernel_rfl) (by kernel_rfl) .i64 (by kernel_rfl) (y := y) hc hf
  go_enter Try.func39, Try.ntmps39
  go_wp2
  go_ret
  exact ⟨rfl, rfl⟩

/-- (*fuse).is: the number, what is left by four, the fourth part. -/
theorem is_any (a : Addr) (x : Int) (h0 : 0 ≤ x) (h1 : x ≤ 4611686018427387904) (w : World) (hc : w.cell? a = some (.int .i64 x)) :
    Calls Try.prog 25 #[.pointer (some a)] w fun e w' => e = .returned (.tuple #[.int .i64 x, .int .i64 (x % 4), .int .i64 (x / 4)]) ∧ w = w' := by
  go_enter Try.func25, Try.ntmps25
  go_wp2_with (go_at_call 33; refine (load_any _ x _ (by simpa using hc)).mono ?_; rintro e w' ⟨rfl, rfl⟩)
  go_ret3
  exact ⟨rfl, rfl⟩

/-- (*fuse).turn from the number that stands there. -/
theorem turn_any (a : Addr) (x s n : Int) (hs0 : 0 ≤ s) (hs1 : s ≤ 3) (hn0 : 0 ≤ n) (hn1 : n ≤ 1000000000000000000) (w : World) (hc : w.cell? a = some (.int .i64 x)) (hf : w.frozen? a = false) :
    Calls Try.prog 26 #[.pointer (some a), .int .i64 x, .int .i64 s, .int .i64 n] w fun e w' => e = .returned (.bool true) ∧ w.setCell a (.int .i64 (n * 4 + s)) = w' := by
  go_enter Try.func26, Try.ntmps26
  go_wp2_with (go_at_call 39; refine (cas_any _ x _ _ (by simpa using hc) (by simpa using hf)).mono ?_; rintro e w' ⟨rfl, rfl⟩)
  go_ret
  exact ⟨rfl, rfl⟩

/-- (*Box).none of no box. -/
theorem none_nil (w : World) : Calls Try.prog 32 #[.pointer none] w fun e w' => e = .returned (.bool true) ∧ w = w' := by
  go_enter Try.func32, Try.ntmps32
  go_wp2
  go_ret
  exact ⟨rfl, rfl⟩

theorem tmod_neg_facts (i n : Int) (hi : i < 0) (hn : 1 ≤ n) : -n < i.tmod n ∧ i.tmod n < n ∧ (i.tmod n < 0 → i.tmod n + n = i % n) ∧ (0 ≤ i.tmod n → i.tmod n = i % n) := by
  have h1 : 0 ≤ i % n := Int.emod_nonneg _ (by omega)
  have h2 : i % n < n := Int.emod_lt_of_pos _ (by omega)
  have h := Int.tmod_eq_emod (a := i) (b := n)
  by_cases hd : n ∣ i
  · rw [if_pos (Or.inr hd)] at h
    omega
  · rw [if_neg (by omega)] at h
    have : i % n ≠ 0 := fun e => hd (Int.dvd_of_emod_eq_zero e)
    omega

theorem ret_int {k : IntKind} {a b : Int} (h : a = b) : Ending.returned (.int k a) = .returned (.int k b) := by rw [h]

/-- Bring: the remainder, from 0 on. -/
theorem bring_any (i n : Int) (hi0 : -9223372036854775808 ≤ i) (hi1 : i ≤ 9223372036854775807) (hn0 : 1 ≤ n) (hn1 : n ≤ 1000000) (w : World) :
    Calls Try.prog 11 #[.int .i64 i, .int .i64 n] w fun e w' => e = .returned (.int .i64 (i % n)) ∧ w = w' := by
  by_cases h : 0 ≤ i
  · have hm : 0 ≤ i % n := Int.emod_nonneg _ (by omega)
    have hm2 : i % n < n := Int.emod_lt_of_pos _ (by omega)
    go_enter Try.func11, Try.ntmps11
    go_wp2
    go_ret
    exact ⟨rfl, rfl⟩
  · go_enter Try.func11, Try.ntmps11
    obtain ⟨f1, f2, f3, f4⟩ := tmod_neg_facts i n (by omega) hn0
    have F3 := Lib.hid f3
    have F4 := Lib.hid f4
    clear f3 f4
    go_wp2
    · go_ret
      exact ⟨ret_int (F3.out (by assumption)), rfl⟩
    · go_ret
      exact ⟨ret_int (F4.out (by assumption)), rfl⟩
end Go.Proofs.Ytckmjglomofooaa
