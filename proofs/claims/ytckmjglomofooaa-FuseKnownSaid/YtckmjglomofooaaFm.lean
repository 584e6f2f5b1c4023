/-
  The fuse seat: FuseRests: the walk.
-/
import Derived.Test.YtckmjglomofooaaFl
import Derived.LoopTactic
namespace Go.Proofs.Ytckmjglomofooaa
open Go.RowKit

theorem Run.start {w0 wS : World} {b bm : Nat} {most rest : Int} (h : FBox w0 b most rest 0 bm []) (f : Fr w0 wS (fun _ => False)) (d l : Int) : Run wS (fun k => k = b ∨ k = bm ∨ wS.heap.size ≤ k) wS b most rest 0 d l 0 := by
  have h1 := h.kept f (fun _ _ h => h)
  refine ⟨fun _ _ => 0, fun k => k = b ∨ k = bm, ⟨bm, [], h1, fun _ _ => rfl, fun k hk => ?_, fun k hk => ?_⟩, rfl, fun _ _ _ => rfl, fun k hk => ?_, fun k hk => .inr (.inr hk), Fr.refl _ _⟩
  · rcases hk with hk | hk | ⟨e, he, _⟩
    · exact .inl hk
    · exact .inr hk
    · cases he
  · rcases hk with rfl | rfl
    · exact h1.fuseLt _ (.inl rfl)
    · exact h1.fuseLt _ (.inr (.inl rfl))
  · rcases hk with hk | hk
    · exact .inl hk
    · exact .inr (.inl hk)

/-- How a fuse stands that has failed so often. -/
def cntN (most rest tick i : Int) : Int := if i < most then i * 4 else (tick + rest) * 4 + 1

theorem cnt_zero {most rest tick : Int} (h : 1 ≤ most) : cntN most rest tick 0 = 0 := by unfold cntN; rw [if_pos (by omega)]; rfl
theorem cnt_full {most rest tick : Int} : cntN most rest tick most = (tick + rest) * 4 + 1 := by unfold cntN; rw [if_neg (by omega)]
theorem cnt_ask {most rest tick i : Int} (h : i < most) : askR (cntN most rest tick i) tick = 0 ∧ askN (cntN most rest tick i) tick rest = cntN most rest tick i := by
  have e : cntN most rest tick i = i * 4 := by unfold cntN; rw [if_pos h]
  rw [e]
  exact ⟨askR_whole (by omega), askN_whole (by omega)⟩
theorem cnt_did {most rest tick i : Int} (h : i < most) : didN (cntN most rest tick i) false tick most rest = cntN most rest tick (i + 1) := by
  have e : cntN most rest tick i = i * 4 := by unfold cntN; rw [if_pos h]
  rw [e]
  by_cases h1 : i + 1 < most
  · rw [didN_more (by omega) (by omega)]
    unfold cntN
    rw [if_pos h1]
    omega
  · rw [didN_blows (by omega) (by omega)]
    unfold cntN
    rw [if_neg h1]

theorem blown_wait {n t u : Int} (h : n = u * 4 + 1) (h1 : t < u) (rest : Int) : askR n t = 170 ∧ askN n t rest = n := ⟨askR_wait (by omega) (by omega), askN_wait (by omega) (by omega)⟩
theorem blown_try {n t u : Int} (h : n = u * 4 + 1) (h1 : u ≤ t) (rest : Int) : askR n t = 0 ∧ askN n t rest = (t + rest) * 4 + 2 := ⟨askR_try (by omega) (by omega), askN_try (by omega) (by omega)⟩
theorem trial_wait {n t u : Int} (h : n = u * 4 + 2) (h1 : t < u) (rest : Int) : askR n t = 170 ∧ askN n t rest = n := ⟨askR_wait (by omega) (by omega), askN_wait (by omega) (by omega)⟩
theorem trial_did {n t u most rest : Int} (h : n = u * 4 + 2) : didN n true t most rest = 0 ∧ didN n false t most rest = (t + rest) * 4 + 1 := ⟨didN_well (by omega), didN_blows (by omega) (by omega)⟩

set_option maxRecDepth 100000 in
set_option maxHeartbeats 2000000 in
theorem rests_any (x0 x1 at_ times : Int) (a0 : -9223372036854775808 ≤ x0) (a1 : x0 ≤ 9223372036854775807) (b0 : -9223372036854775808 ≤ x1) (b1 : x1 ≤ 9223372036854775807) (c0 : -9223372036854775808 ≤ at_) (c1 : at_ ≤ 9223372036854775807) (d0 : -9223372036854775808 ≤ times) (d1 : times ≤ 9223372036854775807) (w : World) :
    Calls Try.prog 5 #[.agg #[.int .i64 x0, .int .i64 x1], .int .i64 at_, .int .i64 times] w fun e w' => e = .returned (.bool true) ∧ Below w.heap.size w w' := by
  have q1 : 0 ≤ x0 % 5 := Int.emod_nonneg _ (by decide)
  have q2 : x0 % 5 < 5 := Int.emod_lt_of_pos _ (by decide)
  have q3 : 0 ≤ x1 % 12 := Int.emod_nonneg _ (by decide)
  have q4 : x1 % 12 < 12 := Int.emod_lt_of_pos _ (by decide)
  have q5 : 0 ≤ at_ % 1000 := Int.emod_nonneg _ (by decide)
  have q6 : at_ % 1000 < 1000 := Int.emod_lt_of_pos _ (by decide)
  have q7 : 0 ≤ times % 21 := Int.emod_nonneg _ (by decide)
  have q8 : times % 21 < 21 := Int.emod_lt_of_pos _ (by decide)
  have q9 : 0 ≤ at_ % 9 := Int.emod_nonneg _ (by decide)
  have q10 : at_ % 9 < 9 := Int.emod_lt_of_pos _ (by decide)
  have hat := fun W => bring_any at_ 1000 c0 c1 (by omega) (by omega) W
  have hti := fun W => bring_any times 21 d0 d1 (by omega) (by omega) W
  have hsp := fun W => spot_any at_ c0 c1 W
  have k1 : (w.alloc (.cells #[.int .i64 x0, .int .i64 x1] 44)).cell? ⟨w.heap.size, 0, none⟩ = some (.int .i64 x0) := by simp
  have k2 : (w.alloc (.cells #[.int .i64 x0, .int .i64 x1] 44)).cell? ⟨w.heap.size, 1, none⟩ = some (.int .i64 x1) := by simp
  generalize at_ % 1000 = t0 at *
  generalize times % 21 = N at *
  generalize at_ % 9 = s at *
  have HAT := Lib.hid hat
  have HTI := Lib.hid hti
  have HSP := Lib.hid hsp
  clear hat hti hsp
  go_enter Try.func5, Try.ntmps5
  go_wp2_with fail
  go_quiet ((go_at_call 11; exact Calls.quiet_of_same ((bring_any _ _ (by omega) (by omega) (by omega) (by omega) _).mono fun _ _ ⟨a, b⟩ => ⟨a, b.symm⟩)))
  generalize x0 % 5 = m0 at *
  generalize x1 % 12 = r0 at *
  go_wp2_with fail
  refine (new_ok (1 + m0) (1 + r0) (by omega) (by omega) (by omega) (by omega) _).mono ?_
  rintro e w0 ⟨b, bm, rfl, h, hB, hb1, hb2⟩
  clear k1 k2
  go_wp2_with fail
  refine (HSP.out _).mono ?_
  rintro e w1 ⟨rfl, f1⟩
  go_wp2_with fail
  refine (HAT.out _).mono ?_
  rintro e w' ⟨rfl, rfl⟩
  have f2 : Fr w0 (w1.alloc (.cells #[.int .i64 (s / 3), .int .i64 (s % 3)] 32)) (fun _ => False) := f1.alloc _
  have R0 := Run.start h f2 (s / 3) (s % 3)
  have f0 : Fr w ((w.alloc (.cells #[.int .i64 x0, .int .i64 x1] 44)).drewN nq) (fun _ => False) := ((Fr.refl w _).alloc _).drewN nq
  have hB1 : Below w.heap.size w w0 := (f0.to_below (Nat.le_refl _) (fun _ _ h => h)).trans (hB.mono f0.size)
  have hb3 := lt_of_some h.box
  have hP : ¬ (fun k => k = b ∨ k = bm ∨ (w1.alloc (.cells #[.int .i64 (s / 3), .int .i64 (s % 3)] 32)).heap.size ≤ k) w1.heap.size := by
    have := f1.size
    have hbm : bm < w0.heap.size := h.fuseLt _ (.inr (.inl rfl))
    simp; omega
  have s0 : (w1.alloc (.cells #[.int .i64 (s / 3), .int .i64 (s % 3)] 32)).cell? ⟨w1.heap.size, 0, none⟩ = some (.int .i64 (s / 3)) := by simp
  have s1 : (w1.alloc (.cells #[.int .i64 (s / 3), .int .i64 (s % 3)] 32)).cell? ⟨w1.heap.size, 1, none⟩ = some (.int .i64 (s % 3)) := by simp
  have hW : Below w.heap.size w (w1.alloc (.cells #[.int .i64 (s / 3), .int .i64 (s % 3)] 32)) := by
    refine hB1.trans (f2.to_below hB1.size (fun _ _ h => h))
  have HP := Lib.hid hP
  have S0 := Lib.hid s0
  have S1 := Lib.hid s1
  have HW := Lib.hid hW
  have hgood : ∀ t : Int, 0 ≤ t → t ≤ 2000 → ¬ BadAt (s / 3) (s % 3) t := fun t h0 h1 => by unfold BadAt; omega
  have HG := Lib.hid hgood
  have hsz : w.heap.size ≤ w1.heap.size := Nat.le_trans hB1.size f1.size
  have hPle : ∀ k, (k = b ∨ k = bm ∨ (w1.alloc (.cells #[.int .i64 (s / 3), .int .i64 (s % 3)] 32)).heap.size ≤ k) → w.heap.size ≤ k := fun k hk => by
    rcases hk with rfl | rfl | hk
    · exact Nat.le_trans f0.size hb1
    · exact Nat.le_trans f0.size hb2
    · simp at hk; omega
  have HPL := Lib.hid hPle
  have hwd : (Lit.int .i64 (s / 3)).wf = true := wf_i64 (by omega) (by omega)
  have hwl : (Lit.int .i64 (s % 3)).wf = true := wf_i64 (by omega) (by omega)
  clear hP s0 s1 hW hgood hPle hB1 f0 f1 f2 hB h hb3 hb1 hb2
  go_wp2_with fail
  generalize w1.heap.size = bs at *
  generalize w1.alloc (.cells #[.int .i64 (s / 3), .int .i64 (s % 3)] 32) = wS at *
  go_loopw [13] (fun v wr => ∃ i now : Int, v = .int .i64 i ∧ 0 ≤ i ∧ i ≤ 1 + m0 ∧ 0 ≤ now ∧ now ≤ t0 ∧ Run wS (fun k => k = b ∨ k = bm ∨ wS.heap.size ≤ k) wr b (1 + m0) (1 + r0) now (s / 3) (s % 3) (cntN (1 + m0) (1 + r0) t0 i)) (fun v _ => (1 + m0 - intOf v).toNat)
  case atStart =>
    refine ⟨0, 0, rfl, by omega, by omega, by omega, by omega, ?_⟩
    rw [cnt_zero (by omega)]
    exact R0
  case round =>
    obtain ⟨i, now, rfl, i0, i1, n0, n1, R⟩ := hrel
    clear R0
    have c0 := R.cell S0.out HP.out
    have c1 := R.cell S1.out HP.out
    go_wp2_with fail
    · have hi : i < 1 + m0 := by omega
      obtain ⟨g1, g2⟩ := @cnt_ask (1 + m0) (1 + r0) t0 i hi
      refine (R.ask t0 t0 0 _ (HG.out _ (by omega) (by omega)) (by omega) g1 g2).mono ?_
      rintro e w2 ⟨rfl, R2⟩
      clear c0 c1 R
      have c0 := R2.cell S0.out HP.out
      have c1 := R2.cell S1.out HP.out
      go_wp2_with fail
      refine (R2.did t0 false t0 _ (HG.out _ (by omega) (by omega)) (by omega) (cnt_did hi)).mono ?_
      rintro e w3 ⟨rfl, R3⟩
      go_wp2_with fail
      go_roundw
      case rel => exact ⟨i + 1, t0, by go_num, by omega, by omega, by omega, by omega, R3⟩
      case measure => simp [intOf]; omega
    · have hi : i = 1 + m0 := by omega
      subst hi
      rw [cnt_full] at R
      clear c0 c1 i0 i1
      refine (HTI.out _).mono ?_
      rintro e w' ⟨rfl, rfl⟩
      go_wp2_with fail
      go_loopw [12, 14] (fun tv kv wr => ∃ t k now : Int, tv = .int .i64 t ∧ kv = .int .i64 k ∧ -1 ≤ k ∧ k ≤ N ∧ 0 ≤ t ∧ t ≤ 1000 + 13 * (N - k) ∧ 0 ≤ now ∧ now ≤ t ∧ Run wS (fun k => k = b ∨ k = bm ∨ wS.heap.size ≤ k) wr b (1 + m0) (1 + r0) now (s / 3) (s % 3) (if k < 0 then 0 else (t + (1 + r0)) * 4 + 1)) (fun _ kv _ => (1 + intOf kv).toNat)
      case atStart =>
        refine ⟨t0, N, now, rfl, rfl, by omega, by omega, by omega, by omega, by omega, by omega, ?_⟩
        rw [if_neg (by omega)]
        exact R
      case round =>
        obtain ⟨t, k, now2, rfl, rfl, k0, k1, t1, t2, n2, n3, R2⟩ := hrel
        clear R n0 n1
        have c0 := R2.cell S0.out HP.out
        have c1 := R2.cell S1.out HP.out
        go_wp2_with fail
        · have hk : 0 ≤ k := by omega
          clear c0 c1
          rw [if_neg (by omega)] at R2
          simp only [decide_eq_true hk]
          go_loopw [15] (fun iv wr => ∃ i now : Int, iv = .int .i64 i ∧ 0 ≤ i ∧ i ≤ 1 + r0 ∧ 0 ≤ now ∧ now ≤ t + i ∧ Run wS (fun k => k = b ∨ k = bm ∨ wS.heap.size ≤ k) wr b (1 + m0) (1 + r0) now (s / 3) (s % 3) ((t + (1 + r0)) * 4 + 1)) (fun iv _ => (1 + r0 - intOf iv).toNat)
          case atStart => exact ⟨0, now2, rfl, by omega, by omega, by omega, by omega, R2⟩
          case round =>
            obtain ⟨i, now3, rfl, i0, i1, n4, n5, R3⟩ := hrel
            clear R2
            have c0 := R3.cell S0.out HP.out
            have c1 := R3.cell S1.out HP.out
            go_wp2_with fail
            · have hi : i < 1 + r0 := by omega
              obtain ⟨g1, g2⟩ := blown_wait (n := (t + (1 + r0)) * 4 + 1) rfl (show t + i < t + (1 + r0) by omega) (1 + r0)
              refine (R3.ask (t + i) (t + i) 170 _ (HG.out _ (by omega) (by omega)) (by omega) g1 g2).mono ?_
              rintro e w2 ⟨rfl, R4⟩
              go_wp2_with fail
              go_roundw
              case rel => exact ⟨i + 1, t + i, by go_num, by omega, by omega, by omega, by omega, R4⟩
              case measure => simp [intOf]; omega
            · have hi : i = 1 + r0 := by omega
              subst hi
              obtain ⟨g1, g2⟩ := blown_try (n := (t + (1 + r0)) * 4 + 1) (t := t + (1 + r0)) rfl (Int.le_refl _) (1 + r0)
              refine (R3.ask (t + (1 + r0)) (t + (1 + r0)) 0 _ (HG.out _ (by omega) (by omega)) (by omega) g1 g2).mono ?_
              rintro e w2 ⟨rfl, R4⟩
              clear c0 c1 g1 g2 R3
              have c0 := R4.cell S0.out HP.out
              have c1 := R4.cell S1.out HP.out
              go_wp2_with fail
              obtain ⟨g1, g2⟩ := trial_wait (n := (t + (1 + r0) + (1 + r0)) * 4 + 2) (t := t + (1 + r0)) rfl (by omega) (1 + r0)
              refine (R4.ask (t + (1 + r0)) (t + (1 + r0)) 170 _ (HG.out _ (by omega) (by omega)) (by omega) g1 g2).mono ?_
              rintro e w3 ⟨rfl, R5⟩
              clear c0 c1 g1 g2 R4
              have c0 := R5.cell S0.out HP.out
              have c1 := R5.cell S1.out HP.out
              go_wp2_with fail
              refine (R5.did (t + (1 + r0)) (decide (k = 0)) (t + (1 + r0)) (if k = 0 then 0 else (t + (1 + r0) + (1 + r0)) * 4 + 1) (HG.out _ (by omega) (by omega)) (by omega) ?_).mono ?_
              · obtain ⟨g1, g2⟩ := trial_did (n := (t + (1 + r0) + (1 + r0)) * 4 + 2) (t := t + (1 + r0)) (most := 1 + m0) (rest := 1 + r0) rfl
                by_cases hk0 : k = 0
                · rw [if_pos hk0, decide_eq_true hk0]; exact g1
                · rw [if_neg hk0, decide_eq_false hk0]; exact g2
              rintro e w4 ⟨rfl, R6⟩
              go_wp2_with fail
              go_roundw
              case rel =>
                refine ⟨t + (1 + r0), k - 1, t + (1 + r0), rfl, rfl, by omega, by omega, by omega, by omega, by omega, by omega, ?_⟩
                by_cases hk0 : k = 0
                · rw [if_pos hk0] at R6; rw [if_pos (by omega)]; exact R6
                · rw [if_neg hk0] at R6; rw [if_neg (by omega)]; exact R6
              case measure => simp [intOf]; omega
        · have hk : k < 0 := by omega
          rw [if_pos hk] at R2
          refine (R2.ask t t 0 0 (HG.out _ (by omega) (by omega)) (by omega) (askR_whole (by decide)) (askN_whole (by decide))).mono ?_
          rintro e w2 ⟨rfl, R4⟩
          clear c0 c1 R2
          have c0 := R4.cell S0.out HP.out
          have c1 := R4.cell S1.out HP.out
          go_wp2_with fail
          refine (R4.ask t t 0 0 (HG.out _ (by omega) (by omega)) (by omega) (askR_whole (by decide)) (askN_whole (by decide))).mono ?_
          rintro e w3 ⟨rfl, R5⟩
          clear c0 c1 R4
          have c0 := R5.cell S0.out HP.out
          have c1 := R5.cell S1.out HP.out
          go_wp2_with fail
          refine (R5.stands 0 0 0 true hwd hwl (by decide)).mono ?_
          rintro e w4 ⟨rfl, R6⟩
          go_wp2_with fail
          refine (works_any _).mono ?_
          rintro e w5 ⟨rfl, hB5⟩
          go_wp2
          go_ret
          have := HW.out.size
          exact ⟨rfl, (HW.out.trans (R6.frame.to_below HW.out.size (fun i hi hp => Nat.not_le_of_lt hi (HPL.out i hp)))).trans (hB5.mono (Nat.le_trans this R6.size))⟩
#print axioms rests_any
end Go.Proofs.Ytckmjglomofooaa
