/-
  The fuse seat: works: the chapter's own box answers as the chapter says.
-/
import Derived.Test.YtckmjglomofooaaFk
namespace Go.Proofs.Ytckmjglomofooaa
open Go.RowKit

theorem good10 (t : Int) (h0 : 0 ≤ t) (h1 : t ≤ 1000) : ¬ BadAt 1 0 t := by unfold BadAt; omega
theorem good11 (t : Int) (h0 : 0 ≤ t) (h1 : t ≤ 1000) : ¬ BadAt 1 1 t := by unfold BadAt; omega
theorem wf0 : (Lit.int .i64 0).wf = true := by decide
theorem wf1 : (Lit.int .i64 1).wf = true := by decide

set_option maxRecDepth 100000 in
set_option maxHeartbeats 2000000 in
theorem works_any (w : World) : Calls Try.prog 17 #[] w fun e w' => e = .returned (.bool true) ∧ Below w.heap.size w w' := by
  go_enter Try.func17, Try.ntmps17
  go_wp2_with fail
  refine (new_ok 2 5 (by decide) (by decide) (by decide) (by decide) w).mono ?_
  rintro e w0 ⟨b, bm, rfl, h, hB, hb1, hb2⟩
  have hb3 := lt_of_some h.box
  have h1 : FBox (w0.alloc (.cells #[.int .i64 1, .int .i64 0] 32)) b 2 5 0 bm [] := h.kept ((Fr.refl _ (fun _ => False)).alloc _) (fun _ _ h => h)
  have hbm3 : bm < w0.heap.size := by obtain ⟨es, clock, hb, _⟩ := h.map; exact lt_of_some hb
  have R0 : Run (w0.alloc (.cells #[.int .i64 1, .int .i64 0] 32)) (fun k => k = b ∨ k = bm ∨ w0.heap.size + 1 ≤ k) (w0.alloc (.cells #[.int .i64 1, .int .i64 0] 32)) b 2 5 0 1 0 0 := by
    refine ⟨fun _ _ => 0, fun k => k = b ∨ k = bm, ⟨bm, [], h1, fun _ _ => rfl, fun k hk => ?_, fun k hk => ?_⟩, rfl, fun _ _ _ => rfl, fun k hk => ?_, fun k hk => ?_, Fr.refl _ _⟩
    · rcases hk with hk | hk | ⟨e, he, _⟩
      · exact .inl hk
      · exact .inr hk
      · cases he
    · simp; omega
    · omega
    · simp at hk; omega
  have s0 : (w0.alloc (.cells #[.int .i64 1, .int .i64 0] 32)).cell? ⟨w0.heap.size, 0, none⟩ = some (.int .i64 1) := by simp
  have s1 : (w0.alloc (.cells #[.int .i64 1, .int .i64 0] 32)).cell? ⟨w0.heap.size, 1, none⟩ = some (.int .i64 0) := by simp
  have hP : ¬ (fun k => k = b ∨ k = bm ∨ w0.heap.size + 1 ≤ k) w0.heap.size := by simp; omega
  have HB := Lib.hid hB
  have HP := Lib.hid hP
  have S0 := Lib.hid s0
  have S1 := Lib.hid s1
  clear hB hP s0 s1 h h1
  go_wp2_with fail
  refine (R0.ask 0 0 0 0 (good10 _ (by decide) (by decide)) (by decide) (by decide) (by decide)).mono ?_
  rintro e w1 ⟨rfl, R1⟩
  have c0 := R1.cell S0.out HP.out
  have c1 := R1.cell S1.out HP.out
  clear R0
  go_wp2_with fail
  clear c0 c1
  refine (R1.did 1 false 1 4 (good10 _ (by decide) (by decide)) (by decide) (by decide)).mono ?_
  rintro e w2 ⟨rfl, R2⟩
  have c0 := R2.cell S0.out HP.out
  have c1 := R2.cell S1.out HP.out
  clear R1
  go_wp2_with fail
  clear c0 c1
  refine (R2.stands 0 1 0 true wf1 wf0 (by decide)).mono ?_
  rintro e w3 ⟨rfl, R3⟩
  have c0 := R3.cell S0.out HP.out
  have c1 := R3.cell S1.out HP.out
  clear R2
  go_wp2_with fail
  clear c0 c1
  refine (R3.did 2 false 2 29 (good10 _ (by decide) (by decide)) (by decide) (by decide)).mono ?_
  rintro e w4 ⟨rfl, R4⟩
  have c0 := R4.cell S0.out HP.out
  have c1 := R4.cell S1.out HP.out
  clear R3
  go_wp2_with fail
  clear c0 c1
  refine (R4.stands 1 0 7 true wf1 wf0 (by decide)).mono ?_
  rintro e w5 ⟨rfl, R5⟩
  have c0 := R5.cell S0.out HP.out
  have c1 := R5.cell S1.out HP.out
  clear R4
  go_wp2_with fail
  clear c0 c1
  refine (R5.ask 6 6 170 29 (good10 _ (by decide) (by decide)) (by decide) (by decide) (by decide)).mono ?_
  rintro e w6 ⟨rfl, R6⟩
  have c0 := R6.cell S0.out HP.out
  have c1 := R6.cell S1.out HP.out
  clear R5
  go_wp2_with fail
  clear c0 c1
  refine (R6.ask 7 7 0 50 (good10 _ (by decide) (by decide)) (by decide) (by decide) (by decide)).mono ?_
  rintro e w7 ⟨rfl, R7⟩
  have c0 := R7.cell S0.out HP.out
  have c1 := R7.cell S1.out HP.out
  clear R6
  go_wp2_with fail
  clear c0 c1
  refine (R7.ask 8 8 170 50 (good10 _ (by decide) (by decide)) (by decide) (by decide) (by decide)).mono ?_
  rintro e w8 ⟨rfl, R8⟩
  have c0 := R8.cell S0.out HP.out
  have c1 := R8.cell S1.out HP.out
  clear R7
  go_wp2_with fail
  clear c0 c1
  refine (R8.stands 2 0 12 true wf1 wf0 (by decide)).mono ?_
  rintro e w9 ⟨rfl, R9⟩
  have c0 := R9.cell S0.out HP.out
  have c1 := R9.cell S1.out HP.out
  clear R8
  go_wp2_with fail
  clear c0 c1
  refine (R9.did 9 true 9 0 (good10 _ (by decide) (by decide)) (by decide) (by decide)).mono ?_
  rintro e w10 ⟨rfl, R10⟩
  have c0 := R10.cell S0.out HP.out
  have c1 := R10.cell S1.out HP.out
  clear R9
  go_wp2_with fail
  clear c0 c1
  refine (R10.stands 0 0 0 true wf1 wf0 (by decide)).mono ?_
  rintro e w11 ⟨rfl, R11⟩
  have c0 := R11.cell S0.out HP.out
  have c1 := R11.cell S1.out HP.out
  clear R10
  go_wp2_with fail
  clear c0 c1
  refine (R11.ask_other 1 1 3 9 (by decide) (good11 _ (by decide) (by decide)) (by decide)).mono ?_
  rintro e w12 ⟨rfl, R12⟩
  clear R11
  go_wp2_with fail
  refine (R12.tick).mono ?_
  rintro e w' ⟨rfl, rfl⟩
  go_wp2_with fail
  refine (R12.spots).mono ?_
  rintro e w13 ⟨p, cap, rfl, R13⟩
  go_wp2
  go_ret
  exact ⟨rfl, (HB.out.alloc HB.out.size _).trans (R13.frame.to_below (by have := HB.out.size; simp; omega) (fun k hk => by have := HB.out.size; omega))⟩

#print axioms works_any
end Go.Proofs.Ytckmjglomofooaa
