/-
  The fuse seat: at, the other ways: a new spot at a later tick; what may not be; no box.
-/
import Derived.Test.YtckmjglomofooaaFc
namespace Go.Proofs.Ytckmjglomofooaa
open Go.RowKit

set_option maxRecDepth 100000 in
set_option maxHeartbeats 400000 in
/-- at: a spot that is not there, at a later tick. -/
theorem at_new_new {w : World} {b bm : Nat} {most rest now : Int} {m : List Ent} (h : FBox w b most rest now bm m) (d l : Int) (hd0 : 0 ≤ d) (hd1 : d ≤ 1000) (hl0 : 0 ≤ l) (hl1 : l ≤ 9) (hx : ∀ e ∈ m, ¬ (e.d = d ∧ e.l = l)) (tick : Int) (ht0 : now < tick) (ht : tick ≤ 4503599627370496) :
    Calls Try.prog 24 #[.pointer (some ⟨b, 0, none⟩), .agg #[.int .i64 d, .int .i64 l], .int .i64 tick] w fun e w' => ∃ f, e = .returned (.tuple #[.pointer (some ⟨f, 0, none⟩), .int .i64 tick, .int .i64 0]) ∧ FBox w' b most rest tick bm (m ++ [⟨d, l, f, 0⟩]) ∧ Fr w w' (fun k => k = b ∨ k = bm) ∧ w.heap.size ≤ f := by
  have hn := h.now1
  have hb := lt_of_some h.box
  have h1 : FBox (w.alloc (.cells #[.int .i64 d, .int .i64 l] 32)) b most rest now bm m := h.kept ((Fr.refl _ (fun _ => False)).alloc _) (fun _ _ h => h)
  have c2 : (w.alloc (.cells #[.int .i64 d, .int .i64 l] 32)).cell? ⟨b, 2, none⟩ = some (.int .i64 now) := by rw [cell_of_block h1.box]; rfl
  have f2 : (w.alloc (.cells #[.int .i64 d, .int .i64 l] 32)).frozen? ⟨b, 2, none⟩ = false := free_of_block h1.box 2
  have h3 : FBox ((w.setCell ⟨b, 2, none⟩ (.int .i64 tick)).alloc (.cells #[.int .i64 d, .int .i64 l] 32)) b most rest tick bm m := (h.tick tick (by omega) ht).kept ((Fr.refl _ (fun _ => False)).alloc _) (fun _ _ h => h)
  have c3 : ((w.setCell ⟨b, 2, none⟩ (.int .i64 tick)).alloc (.cells #[.int .i64 d, .int .i64 l] 32)).cell? ⟨b, 3, none⟩ = some (.map (some bm)) := by rw [cell_of_block h3.box]; rfl
  have hlk : ∀ n : Nat, (Instr.lookup 66 (.map (some bm)) (.agg #[.int .i64 d, .int .i64 l]) false).run Try.prog (((w.setCell ⟨b, 2, none⟩ (.int .i64 tick)).alloc (.cells #[.int .i64 d, .int .i64 l] 32)).drewN n) = .ok (.pointer none) (((w.setCell ⟨b, 2, none⟩ (.int .i64 tick)).alloc (.cells #[.int .i64 d, .int .i64 l] 32)).drewN n) := fun n => by
    rcases (h3.drewN n).map.find h1.ok d l (wf_i64 hd0 hd1) (wf_i64 hl0 (by omega)) with ⟨k, _⟩ | ⟨e, he, k1, k2, _⟩
    · exact k
    · exact (hx e he ⟨k1, k2⟩).elim
  go_enter Try.func24, Try.ntmps24
  go_wp2_with (first | (go_at_call 32; refine (none_box h1).mono ?_; rintro e w' ⟨rfl, rfl⟩) | (go_at_call 33; refine (load_any _ now _ (by simpa using c2)).mono ?_; rintro e w' ⟨rfl, rfl⟩))
  refine wp_loop_rounds 1 ?_
  rw [rounds_succ]
  go_wp2_with (first | (go_at_call 33; refine (load_any _ now _ (by simpa using c2)).mono ?_; rintro e w' ⟨rfl, rfl⟩) | (go_at_call 39; refine (cas_any _ now _ _ (by simpa using c2) (by simpa using f2)).mono ?_; rintro e w' ⟨rfl, rfl⟩))
  go_quiet (fail)
  have h2 := h3.drewN nq
  go_wp2_with fail
  have h4 := h2.kept (((Fr.refl _ (fun _ => False)).alloc (.cells #[.int .i64 0] 81)).drew) (fun _ _ h => h)
  have hf4 : (((((w.setCell ⟨b, 2, none⟩ (.int .i64 tick)).alloc (.cells #[.int .i64 d, .int .i64 l] 32)).drewN nq).alloc (.cells #[.int .i64 0] 81)).drew).heap[w.heap.size + 1]? = some (.cells #[.int .i64 0] 81 (0, 0)) := by
    have := heap_new (((w.setCell ⟨b, 2, none⟩ (.int .i64 tick)).alloc (.cells #[.int .i64 d, .int .i64 l] 32)).drewN nq) (.cells #[.int .i64 0] 81)
    rw [show (((w.setCell ⟨b, 2, none⟩ (.int .i64 tick)).alloc (.cells #[.int .i64 d, .int .i64 l] 32)).drewN nq).heap.size = w.heap.size + 1 from by show ((w.setCell ⟨b, 2, none⟩ (.int .i64 tick)).alloc (.cells #[.int .i64 d, .int .i64 l] 32)).heap.size = _; simp] at this
    exact this
  have c4 : (((((w.setCell ⟨b, 2, none⟩ (.int .i64 tick)).alloc (.cells #[.int .i64 d, .int .i64 l] 32)).drewN nq).alloc (.cells #[.int .i64 0] 81)).drew).cell? ⟨b, 3, none⟩ = some (.map (some bm)) := by rw [cell_of_block h4.box]; rfl
  obtain ⟨w3, hup, h5, hfr⟩ := h4.insert d l hd0 hd1 hl0 hl1 hx (w.heap.size + 1) hf4 (h.fresh (by omega))
  go_region
  all_goals go_wp2_with (go_at_call 23; refine (tick_box h5).mono ?_; rintro e w' ⟨rfl, rfl⟩)
  all_goals go_ret3
  all_goals exact ⟨w.heap.size + 1, rfl, h5, (((((Fr.refl w (fun k => k = b ∨ k = bm)).setCell ⟨b, 2, none⟩ _ (fun _ => .inl rfl)).alloc _).drewN nq).alloc _).drew.trans hfr (fun _ _ h => .inr h), by omega⟩

/-- What may not be told. -/
def BadAt (d l tick : Int) : Prop := tick < 0 ∨ 4503599627370496 < tick ∨ d < 0 ∨ 1000 < d ∨ l < 0 ∨ 9 < l

set_option maxRecDepth 100000 in
set_option maxHeartbeats 1000000 in
/-- at: a spot or a tick that may not be. -/
theorem at_bad {w : World} {b bm : Nat} {most rest now : Int} {m : List Ent} (h : FBox w b most rest now bm m) (d l tick : Int) (hbad : BadAt d l tick) :
    Calls Try.prog 24 #[.pointer (some ⟨b, 0, none⟩), .agg #[.int .i64 d, .int .i64 l], .int .i64 tick] w fun e w' => e = .returned (.tuple #[.pointer none, .int .i64 0, .int .i64 9]) ∧ w.alloc (.cells #[.int .i64 d, .int .i64 l] 32) = w' := by
  have h1 : FBox (w.alloc (.cells #[.int .i64 d, .int .i64 l] 32)) b most rest now bm m := h.kept ((Fr.refl _ (fun _ => False)).alloc _) (fun _ _ h => h)
  unfold BadAt at hbad
  by_cases k1 : tick < 0
  · clear hbad
    go_enter Try.func24, Try.ntmps24
    go_wp2_with (go_at_call 32; refine (none_box h1).mono ?_; rintro e w' ⟨rfl, rfl⟩)
    go_ret3
    exact ⟨rfl, rfl⟩
  by_cases k2 : 4503599627370496 < tick
  · clear hbad
    go_enter Try.func24, Try.ntmps24
    go_wp2_with (go_at_call 32; refine (none_box h1).mono ?_; rintro e w' ⟨rfl, rfl⟩)
    go_ret3
    exact ⟨rfl, rfl⟩
  by_cases k3 : d < 0
  · clear hbad
    go_enter Try.func24, Try.ntmps24
    go_wp2_with (go_at_call 32; refine (none_box h1).mono ?_; rintro e w' ⟨rfl, rfl⟩)
    go_ret3
    exact ⟨rfl, rfl⟩
  by_cases k4 : 1000 < d
  · clear hbad
    go_enter Try.func24, Try.ntmps24
    go_wp2_with (go_at_call 32; refine (none_box h1).mono ?_; rintro e w' ⟨rfl, rfl⟩)
    go_ret3
    exact ⟨rfl, rfl⟩
  by_cases k5 : l < 0
  · clear hbad
    go_enter Try.func24, Try.ntmps24
    go_wp2_with (go_at_call 32; refine (none_box h1).mono ?_; rintro e w' ⟨rfl, rfl⟩)
    go_ret3
    exact ⟨rfl, rfl⟩
  have k6 : 9 < l := by omega
  clear hbad
  go_enter Try.func24, Try.ntmps24
  go_wp2_with (go_at_call 32; refine (none_box h1).mono ?_; rintro e w' ⟨rfl, rfl⟩)
  go_ret3
  exact ⟨rfl, rfl⟩
end Go.Proofs.Ytckmjglomofooaa
