/-
  The fuse seat: none, Tick, New and at, over a box in memory.
-/
import Derived.Test.YtckmjglomofooaaFb
import Derived.BigQuiet
import Derived.Deep.QuietTactic
import Derived.Deep.RegionWith
namespace Go.Proofs.Ytckmjglomofooaa
open Go.RowKit

theorem q66 (w : World) (r : Option Nat) : (binOp .eql 66 (.map r) (.map none)).run Try.prog w = .ok (.bool r.isNone) w := run_eql_map_nil w _ _ _ r Try.underlying66

theorem none_box {w : World} {b bm : Nat} {most rest now : Int} {m : List Ent} (h : FBox w b most rest now bm m) :
    Calls Try.prog 32 #[.pointer (some ⟨b, 0, none⟩)] w fun e w' => e = .returned (.bool false) ∧ w = w' := by
  have c3 : w.cell? ⟨b, 3, none⟩ = some (.map (some bm)) := by rw [cell_of_block h.box]; rfl
  have q := q66
  go_enter Try.func32, Try.ntmps32
  go_wp2
  go_ret
  exact ⟨rfl, rfl⟩

theorem tick_box {w : World} {b bm : Nat} {most rest now : Int} {m : List Ent} (h : FBox w b most rest now bm m) :
    Calls Try.prog 23 #[.pointer (some ⟨b, 0, none⟩)] w fun e w' => e = .returned (.int .i64 now) ∧ w = w' := by
  have c2 : w.cell? ⟨b, 2, none⟩ = some (.int .i64 now) := by rw [cell_of_block h.box]; rfl
  have hn := h.now1
  go_enter Try.func23, Try.ntmps23
  go_wp2_with (first | (go_at_call 32; refine (none_box h).mono ?_; rintro e w' ⟨rfl, rfl⟩) | (go_at_call 33; refine (load_any _ now _ (by simpa using c2)).mono ?_; rintro e w' ⟨rfl, rfl⟩))
  go_ret
  exact ⟨rfl, rfl⟩

theorem new_ok (most rest : Int) (h1 : 1 ≤ most) (h2 : most ≤ 1000) (h3 : 1 ≤ rest) (h4 : rest ≤ 1000000) (w : World) :
    Calls Try.prog 9 #[.int .i64 most, .int .i64 rest] w fun e w' => ∃ b bm, e = .returned (.tuple #[.pointer (some ⟨b, 0, none⟩), .int .i64 0]) ∧ FBox w' b most rest 0 bm [] ∧ Below w.heap.size w w' ∧ w.heap.size ≤ b ∧ w.heap.size ≤ bm := by
  have hmm := @run_makeMap Try.prog
  go_enter Try.func9, Try.ntmps9
  go_wp2
  go_ret2
  refine ⟨w.heap.size + 1, w.heap.size, rfl, ?_, ((Below.refl _ _).alloc (Nat.le_refl _) _).alloc (by simp) _, by omega, Nat.le_refl _⟩
  have e1 := heap_new (w.alloc (.map #[] 0)) (.cells #[.int .i64 most, .int .i64 rest, .int .i64 0, .map (some w.heap.size)] 68)
  rw [World.size_alloc] at e1
  have e2 := (Below.heap_alloc (w.alloc (.map #[] 0)) (.cells #[.int .i64 most, .int .i64 rest, .int .i64 0, .map (some w.heap.size)] 68) w.heap.size (by simp)).trans (heap_new w (.map #[] 0))
  exact ⟨e1, ⟨#[], 0, e2, MapKept.stamped_empty 0, rfl⟩, by simp, by simp, by simp, ⟨h1, h2⟩, ⟨h3, h4⟩, by omega⟩

theorem new_bad (most rest : Int) (h : most < 1 ∨ 1000 < most ∨ rest < 1 ∨ 1000000 < rest) (w : World) :
    Calls Try.prog 9 #[.int .i64 most, .int .i64 rest] w fun e w' => e = .returned (.tuple #[.pointer none, .int .i64 2]) ∧ w = w' := by
  by_cases h1 : most < 1
  · go_enter Try.func9, Try.ntmps9
    go_wp2
    go_ret2
    exact ⟨rfl, rfl⟩
  by_cases h2 : 1000 < most
  · go_enter Try.func9, Try.ntmps9
    go_wp2
    go_ret2
    exact ⟨rfl, rfl⟩
  by_cases h3 : rest < 1
  · go_enter Try.func9, Try.ntmps9
    go_wp2
    go_ret2
    exact ⟨rfl, rfl⟩
  have h4 : 1000000 < rest := by omega
  clear h
  go_enter Try.func9, Try.ntmps9
  go_wp2
  go_ret2
  exact ⟨rfl, rfl⟩

set_option maxHeartbeats 400000 in
set_option maxRecDepth 100000 in
/-- at: a spot that is there, at an elder tick. -/
theorem at_has_old {w : World} {b bm : Nat} {most rest now : Int} {m : List Ent} (h : FBox w b most rest now bm m) {x : Ent} (hx : x ∈ m) (tick : Int) (ht0 : 0 ≤ tick) (ht : tick ≤ now) :
    Calls Try.prog 24 #[.pointer (some ⟨b, 0, none⟩), .agg #[.int .i64 x.d, .int .i64 x.l], .int .i64 tick] w fun e w' => e = .returned (.tuple #[.pointer (some ⟨x.f, 0, none⟩), .int .i64 now, .int .i64 0]) ∧ FBox w' b most rest now bm m ∧ Fr w w' (fun _ => False) := by
  have hn := h.now1
  obtain ⟨o1, o2, o3, o4, o5, o6⟩ := h.ok x hx
  have hb := lt_of_some h.box
  have h1 : FBox (w.alloc (.cells #[.int .i64 x.d, .int .i64 x.l] 32)) b most rest now bm m := h.kept ((Fr.refl _ _).alloc _) (fun _ _ h => h)
  have c2 : (w.alloc (.cells #[.int .i64 x.d, .int .i64 x.l] 32)).cell? ⟨b, 2, none⟩ = some (.int .i64 now) := by rw [cell_of_block h1.box]; rfl
  have c3 : (w.alloc (.cells #[.int .i64 x.d, .int .i64 x.l] 32)).cell? ⟨b, 3, none⟩ = some (.map (some bm)) := by rw [cell_of_block h1.box]; rfl
  have hlk : ∀ n : Nat, _ := fun n => (h1.drewN n).map.look h1.ok hx
  unfold spotV at hlk
  go_enter Try.func24, Try.ntmps24
  go_wp2_with (first | (go_at_call 32; refine (none_box h1).mono ?_; rintro e w' ⟨rfl, rfl⟩) | (go_at_call 33; refine (load_any _ now _ (by simpa using c2)).mono ?_; rintro e w' ⟨rfl, rfl⟩))
  refine wp_loop_rounds 1 ?_
  rw [rounds_succ]
  go_wp2_with (first | (go_at_call 33; refine (load_any _ now _ (by simpa using c2)).mono ?_; rintro e w' ⟨rfl, rfl⟩))
  go_quiet (fail)
  have h2 := h1.drewN nq
  go_wp2_with (go_at_call 23; refine (tick_box h2).mono ?_; rintro e w' ⟨rfl, rfl⟩)
  go_ret3
  exact ⟨rfl, h2, ((Fr.refl _ _).alloc _).drewN _⟩

/-- The box with another tick. -/
theorem FBox.tick {w : World} {b bm : Nat} {most rest now : Int} {m : List Ent} (h : FBox w b most rest now bm m) (t : Int) (h0 : 0 ≤ t) (h1 : t ≤ 4503599627370496) : FBox (w.setCell ⟨b, 2, none⟩ (.int .i64 t)) b most rest t bm m := by
  have hne : ∀ e ∈ m, e.f ≠ b := fun e he h' => by
    have k1 := h.fuse e he
    rw [h', h.box] at k1
    simp at k1
  have hne2 : bm ≠ b := fun h' => by
    obtain ⟨es, clock, hb, _⟩ := h.map
    rw [h', h.box] at hb
    simp at hb
  obtain ⟨es, clock, hb, hs, hm⟩ := h.map
  exact { h with
    box := by have := set_of_block h.box 2 (.int .i64 t); simpa using this
    map := ⟨es, clock, heap_set_other _ _ hb hne2, hs, hm⟩
    fuse := fun e he => heap_set_other _ _ (h.fuse e he) (hne e he)
    now1 := ⟨h0, h1⟩ }

set_option maxRecDepth 100000 in
set_option maxHeartbeats 400000 in
/-- at: a spot that is there, at a later tick. -/
theorem at_has_new {w : World} {b bm : Nat} {most rest now : Int} {m : List Ent} (h : FBox w b most rest now bm m) {x : Ent} (hx : x ∈ m) (tick : Int) (ht0 : now < tick) (ht : tick ≤ 4503599627370496) :
    Calls Try.prog 24 #[.pointer (some ⟨b, 0, none⟩), .agg #[.int .i64 x.d, .int .i64 x.l], .int .i64 tick] w fun e w' => e = .returned (.tuple #[.pointer (some ⟨x.f, 0, none⟩), .int .i64 tick, .int .i64 0]) ∧ FBox w' b most rest tick bm m ∧ Fr w w' (· = b) := by
  have hn := h.now1
  obtain ⟨o1, o2, o3, o4, o5, o6⟩ := h.ok x hx
  have hb := lt_of_some h.box
  have h1 : FBox (w.alloc (.cells #[.int .i64 x.d, .int .i64 x.l] 32)) b most rest now bm m := h.kept ((Fr.refl _ (fun _ => False)).alloc _) (fun _ _ h => h)
  have c2 : (w.alloc (.cells #[.int .i64 x.d, .int .i64 x.l] 32)).cell? ⟨b, 2, none⟩ = some (.int .i64 now) := by rw [cell_of_block h1.box]; rfl
  have f2 : (w.alloc (.cells #[.int .i64 x.d, .int .i64 x.l] 32)).frozen? ⟨b, 2, none⟩ = false := free_of_block h1.box 2
  have h3 : FBox ((w.setCell ⟨b, 2, none⟩ (.int .i64 tick)).alloc (.cells #[.int .i64 x.d, .int .i64 x.l] 32)) b most rest tick bm m := (h.tick tick (by omega) ht).kept ((Fr.refl _ (fun _ => False)).alloc _) (fun _ _ h => h)
  have c3 : ((w.setCell ⟨b, 2, none⟩ (.int .i64 tick)).alloc (.cells #[.int .i64 x.d, .int .i64 x.l] 32)).cell? ⟨b, 3, none⟩ = some (.map (some bm)) := by rw [cell_of_block h3.box]; rfl
  have hlk : ∀ n : Nat, _ := fun n => (h3.drewN n).map.look h1.ok hx
  unfold spotV at hlk
  go_enter Try.func24, Try.ntmps24
  go_wp2_with (first | (go_at_call 32; refine (none_box h1).mono ?_; rintro e w' ⟨rfl, rfl⟩) | (go_at_call 33; refine (load_any _ now _ (by simpa using c2)).mono ?_; rintro e w' ⟨rfl, rfl⟩))
  refine wp_loop_rounds 1 ?_
  rw [rounds_succ]
  go_wp2_with (first | (go_at_call 33; refine (load_any _ now _ (by simpa using c2)).mono ?_; rintro e w' ⟨rfl, rfl⟩) | (go_at_call 39; refine (cas_any _ now _ _ (by simpa using c2) (by simpa using f2)).mono ?_; rintro e w' ⟨rfl, rfl⟩))
  go_quiet (fail)
  have h2 := h3.drewN nq
  go_wp2_with (go_at_call 23; refine (tick_box h2).mono ?_; rintro e w' ⟨rfl, rfl⟩)
  go_ret3
  exact ⟨rfl, h2, (((Fr.refl w (· = b)).setCell _ _ (fun _ => rfl)).alloc _).drewN _⟩

set_option maxRecDepth 100000 in
set_option maxHeartbeats 400000 in
/-- at: a spot that is not there, at an elder tick. -/
theorem at_new_old {w : World} {b bm : Nat} {most rest now : Int} {m : List Ent} (h : FBox w b most rest now bm m) (d l : Int) (hd0 : 0 ≤ d) (hd1 : d ≤ 1000) (hl0 : 0 ≤ l) (hl1 : l ≤ 9) (hx : ∀ e ∈ m, ¬ (e.d = d ∧ e.l = l)) (tick : Int) (ht0 : 0 ≤ tick) (ht : tick ≤ now) :
    Calls Try.prog 24 #[.pointer (some ⟨b, 0, none⟩), .agg #[.int .i64 d, .int .i64 l], .int .i64 tick] w fun e w' => ∃ f, e = .returned (.tuple #[.pointer (some ⟨f, 0, none⟩), .int .i64 now, .int .i64 0]) ∧ FBox w' b most rest now bm (m ++ [⟨d, l, f, 0⟩]) ∧ Fr w w' (· = bm) ∧ w.heap.size ≤ f := by
  have hn := h.now1
  have hb := lt_of_some h.box
  have h1 : FBox (w.alloc (.cells #[.int .i64 d, .int .i64 l] 32)) b most rest now bm m := h.kept ((Fr.refl _ (fun _ => False)).alloc _) (fun _ _ h => h)
  have c2 : (w.alloc (.cells #[.int .i64 d, .int .i64 l] 32)).cell? ⟨b, 2, none⟩ = some (.int .i64 now) := by rw [cell_of_block h1.box]; rfl
  have c3 : (w.alloc (.cells #[.int .i64 d, .int .i64 l] 32)).cell? ⟨b, 3, none⟩ = some (.map (some bm)) := by rw [cell_of_block h1.box]; rfl
  have hlk : ∀ n : Nat, (Instr.lookup 66 (.map (some bm)) (.agg #[.int .i64 d, .int .i64 l]) false).run Try.prog ((w.alloc (.cells #[.int .i64 d, .int .i64 l] 32)).drewN n) = .ok (.pointer none) ((w.alloc (.cells #[.int .i64 d, .int .i64 l] 32)).drewN n) := fun n => by
    rcases (h1.drewN n).map.find h1.ok d l (wf_i64 hd0 hd1) (wf_i64 hl0 (by omega)) with ⟨k, _⟩ | ⟨e, he, k1, k2, _⟩
    · exact k
    · exact (hx e he ⟨k1, k2⟩).elim
  go_enter Try.func24, Try.ntmps24
  go_wp2_with (first | (go_at_call 32; refine (none_box h1).mono ?_; rintro e w' ⟨rfl, rfl⟩) | (go_at_call 33; refine (load_any _ now _ (by simpa using c2)).mono ?_; rintro e w' ⟨rfl, rfl⟩))
  refine wp_loop_rounds 1 ?_
  rw [rounds_succ]
  go_wp2_with (first | (go_at_call 33; refine (load_any _ now _ (by simpa using c2)).mono ?_; rintro e w' ⟨rfl, rfl⟩))
  go_quiet (fail)
  have h2 := h1.drewN nq
  go_wp2_with fail
  have h4 := h2.kept (((Fr.refl _ (fun _ => False)).alloc (.cells #[.int .i64 0] 81)).drew) (fun _ _ h => h)
  have hf4 : ((((w.alloc (.cells #[.int .i64 d, .int .i64 l] 32)).drewN nq).alloc (.cells #[.int .i64 0] 81)).drew).heap[w.heap.size + 1]? = some (.cells #[.int .i64 0] 81 (0, 0)) := by
    have := heap_new ((w.alloc (.cells #[.int .i64 d, .int .i64 l] 32)).drewN nq) (.cells #[.int .i64 0] 81)
    rw [show ((w.alloc (.cells #[.int .i64 d, .int .i64 l] 32)).drewN nq).heap.size = w.heap.size + 1 from World.size_alloc _ _] at this
    exact this
  have c4 : ((((w.alloc (.cells #[.int .i64 d, .int .i64 l] 32)).drewN nq).alloc (.cells #[.int .i64 0] 81)).drew).cell? ⟨b, 3, none⟩ = some (.map (some bm)) := by rw [cell_of_block h4.box]; rfl
  obtain ⟨w3, hup, h5, hfr⟩ := h4.insert d l hd0 hd1 hl0 hl1 hx (w.heap.size + 1) hf4 (h.fresh (by omega))
  go_region
  all_goals go_wp2_with (go_at_call 23; refine (tick_box h5).mono ?_; rintro e w' ⟨rfl, rfl⟩)
  all_goals go_ret3
  all_goals exact ⟨w.heap.size + 1, rfl, h5, ((((Fr.refl w (· = bm)).alloc _).drewN nq).alloc _).drew.trans hfr (fun _ _ h => h), by omega⟩
end Go.Proofs.Ytckmjglomofooaa
