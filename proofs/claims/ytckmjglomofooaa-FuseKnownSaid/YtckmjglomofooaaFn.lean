/-
  The fuse seat: FuseKeeps: the walk.
-/
import Derived.Test.YtckmjglomofooaaFm
import Derived.LoopTactic
namespace Go.Proofs.Ytckmjglomofooaa
open Go.RowKit

/-- A slice of integers that came in: what it holds, each element in its range. -/
def IntsAt (w : World) (p : Option Addr) (len : Nat) : Prop :=
  0 < len → ∃ b off, p = some ⟨b, off, none⟩ ∧ b < w.heap.size ∧ ∀ j, j < len → ∃ x, w.cell? ⟨b, off + j, none⟩ = some (.int .i64 x) ∧ -9223372036854775808 ≤ x ∧ x ≤ 9223372036854775807

theorem IntsAt.below {w w' : World} {p : Option Addr} {len : Nat} (h : IntsAt w p len) (hB : Below w.heap.size w w') : IntsAt w' p len := fun hl => by
  obtain ⟨b, off, rfl, hb, hc⟩ := h hl
  refine ⟨b, off, rfl, Nat.lt_of_lt_of_le hb hB.size, fun j hj => ?_⟩
  obtain ⟨x, hx, h1⟩ := hc j hj
  exact ⟨x, by rw [hB.cell (by exact hb)]; exact hx, h1⟩

theorem keep_more {f most t rest : Int} (_h0 : 0 ≤ f) (h1 : f + 1 < most) : didN (f * 4) false t most rest = (f + 1) * 4 := by
  rw [didN_more (by omega) (by omega)]
  omega

set_option maxRecDepth 100000 in
set_option maxHeartbeats 2000000 in
theorem keeps_any (most on : Int) (p : Option Addr) (len cap : Nat) (a0 : -9223372036854775808 ≤ most) (a1 : most ≤ 9223372036854775807) (c0 : -9223372036854775808 ≤ on) (c1 : on ≤ 9223372036854775807) (w : World) (hI : IntsAt w p len) (_hlen : len < 9223372036854775808) :
    Calls Try.prog 6 #[.int .i64 most, .slice p len cap, .int .i64 on] w fun e w' => e = .returned (.bool true) ∧ Below w.heap.size w w' := by
  have q1 : 0 ≤ most % 8 := Int.emod_nonneg _ (by decide)
  have q2 : most % 8 < 8 := Int.emod_lt_of_pos _ (by decide)
  have q3 : 0 ≤ on % 5 := Int.emod_nonneg _ (by decide)
  have q4 : on % 5 < 5 := Int.emod_lt_of_pos _ (by decide)
  have hmo := fun W => bring_any most 8 a0 a1 (by omega) (by omega) W
  have hon := fun W => bring_any on 5 c0 c1 (by omega) (by omega) W
  have HII := Lib.hid hI
  clear hI
  generalize most % 8 = m0 at *
  generalize on % 5 = s0 at *
  have hsp := fun W => spot_any s0 (by omega) (by omega) W
  rw [Int.emod_eq_of_lt (by omega) (by omega)] at hsp
  have HSP := Lib.hid hsp
  clear hsp
  go_enter Try.func6, Try.ntmps6
  go_wp2_with fail
  refine (hmo _).mono ?_
  rintro e w' ⟨rfl, rfl⟩
  go_wp2_with fail
  refine (hon _).mono ?_
  rintro e w' ⟨rfl, rfl⟩
  clear hmo hon
  go_wp2_with fail
  refine (new_ok (1 + m0) 3 (by omega) (by omega) (by omega) (by omega) _).mono ?_
  rintro e w0 ⟨b, bm, rfl, h, hB, hb1, hb2⟩
  go_wp2_with fail
  refine (HSP.out _).mono ?_
  rintro e w1 ⟨rfl, f1⟩
  have f2 : Fr w0 (w1.alloc (.cells #[.int .i64 (s0 / 3), .int .i64 (s0 % 3)] 32)) (fun _ => False) := f1.alloc _
  have R0 := Run.start h f2 (s0 / 3) (s0 % 3)
  have hb3 := lt_of_some h.box
  have hP : ¬ (fun k => k = b ∨ k = bm ∨ (w1.alloc (.cells #[.int .i64 (s0 / 3), .int .i64 (s0 % 3)] 32)).heap.size ≤ k) w1.heap.size := by
    have := f1.size
    have hbm : bm < w0.heap.size := h.fuseLt _ (.inr (.inl rfl))
    simp; omega
  have hsz : w.heap.size ≤ w1.heap.size := Nat.le_trans hB.size f1.size
  have hPle : ∀ k, (k = b ∨ k = bm ∨ (w1.alloc (.cells #[.int .i64 (s0 / 3), .int .i64 (s0 % 3)] 32)).heap.size ≤ k) → w.heap.size ≤ k := fun k hk => by
    rcases hk with rfl | rfl | hk
    · exact hb1
    · exact hb2
    · simp at hk; omega
  have t0 : (w1.alloc (.cells #[.int .i64 (s0 / 3), .int .i64 (s0 % 3)] 32)).cell? ⟨w1.heap.size, 0, none⟩ = some (.int .i64 (s0 / 3)) := by simp
  have t1 : (w1.alloc (.cells #[.int .i64 (s0 / 3), .int .i64 (s0 % 3)] 32)).cell? ⟨w1.heap.size, 1, none⟩ = some (.int .i64 (s0 % 3)) := by simp
  have hW : Below w.heap.size w (w1.alloc (.cells #[.int .i64 (s0 / 3), .int .i64 (s0 % 3)] 32)) := by
    refine hB.trans (f2.to_below hB.size (fun _ _ h => h))
  have hgood : ∀ t : Int, 0 ≤ t → t ≤ 20000 → ¬ BadAt (s0 / 3) (s0 % 3) t := fun t h0 h1 => by unfold BadAt; omega
  have hwd : (Lit.int .i64 (s0 / 3)).wf = true := wf_i64 (by omega) (by omega)
  have hwl : (Lit.int .i64 (s0 % 3)).wf = true := wf_i64 (by omega) (by omega)
  have HP := Lib.hid hP
  have S0 := Lib.hid t0
  have S1 := Lib.hid t1
  have HW := Lib.hid hW
  have HG := Lib.hid hgood
  have HPL := Lib.hid hPle
  clear hP t0 t1 hW hgood hPle f1 f2 hB h hb3 hb1 hb2
  go_wp2_with fail
  generalize w1.heap.size = bs at *
  generalize w1.alloc (.cells #[.int .i64 (s0 / 3), .int .i64 (s0 % 3)] 32) = wS at *
  go_loopw [10, 11] (fun tv iv wr => ∃ (k : Nat) (t now : Int), tv = .int .i64 t ∧ iv = .int .i64 k ∧ k ≤ len ∧ k ≤ 40 ∧ 0 ≤ t ∧ t ≤ 40 * k ∧ 0 ≤ now ∧ now ≤ t ∧ Run wS (fun k => k = b ∨ k = bm ∨ wS.heap.size ≤ k) wr b (1 + m0) 3 now (s0 / 3) (s0 % 3) 0) (fun _ iv _ => 40 - (intOf iv).toNat)
  case atStart => exact ⟨0, 0, 0, rfl, rfl, by omega, by omega, by omega, by omega, by omega, by omega, R0⟩
  case round =>
    obtain ⟨k, t, now, rfl, rfl, k0, k1, t0, t1, n0, n1, R⟩ := hrel
    clear R0
    have hIr := HII.out.below (HW.out.trans (R.frame.to_below HW.out.size (fun i hi hp => Nat.not_le_of_lt hi (HPL.out i hp))))
    by_cases hl : k < len ∧ k < 40
    · obtain ⟨hl, hl40⟩ := hl
      obtain ⟨bb, off, rfl, hbb, hc⟩ := hIr (by omega)
      obtain ⟨x, hx, x0, x1⟩ := hc k hl
      clear hc hIr
      have hk1 : ((k : Int) < (len : Int)) := by omega
      have hk2 : ((k : Int) < 40) := by omega
      go_wp2_with fail
      refine (bring_any x (1 + m0) x0 x1 (by omega) (by omega) _).mono ?_
      rintro e w' ⟨rfl, rfl⟩
      have y0 : 0 ≤ x % (1 + m0) := Int.emod_nonneg _ (by omega)
      have y1 : x % (1 + m0) < 1 + m0 := Int.emod_lt_of_pos _ (by omega)
      clear hx x0 x1
      generalize x % (1 + m0) = f0 at *
      go_wp2_with fail
      go_loopw [10, 12] (fun tv nv wr => ∃ (n t2 now2 : Int), tv = .int .i64 t2 ∧ nv = .int .i64 n ∧ 0 ≤ n ∧ n ≤ f0 ∧ 0 ≤ now2 ∧ now2 ≤ t2 ∧ t2 + 4 * n ≤ 40 * k + 40 ∧ Run wS (fun k => k = b ∨ k = bm ∨ wS.heap.size ≤ k) wr b (1 + m0) 3 now2 (s0 / 3) (s0 % 3) ((f0 - n) * 4)) (fun _ nv _ => (intOf nv).toNat)
      case atStart =>
        refine ⟨f0, t, now, rfl, rfl, by omega, by omega, by omega, by omega, by omega, ?_⟩
        rw [Int.sub_self, Int.zero_mul]
        exact R
      case round =>
        obtain ⟨n, t2, now2, rfl, rfl, n2, n3, n4, n5, n6, R2⟩ := hrel
        clear R
        have c0 := R2.cell S0.out HP.out
        have c1 := R2.cell S1.out HP.out
        go_wp2_with fail
        · have hn : 0 < n := by omega
          refine (R2.ask t2 t2 0 ((f0 - n) * 4) (HG.out _ (by omega) (by omega)) (by omega) (askR_whole (by omega)) (askN_whole (by omega))).mono ?_
          rintro e w2 ⟨rfl, R3⟩
          clear c0 c1 R2
          have c0 := R3.cell S0.out HP.out
          have c1 := R3.cell S1.out HP.out
          go_wp2_with fail
          refine (R3.did t2 false t2 ((f0 - n + 1) * 4) (HG.out _ (by omega) (by omega)) (by omega) (keep_more (by omega) (by omega))).mono ?_
          rintro e w3 ⟨rfl, R4⟩
          clear c0 c1 R3
          go_wp2_with fail
          go_roundw
          case rel =>
            refine ⟨n - 1, t2 + s0, t2, rfl, rfl, by omega, by omega, by omega, by omega, by omega, ?_⟩
            rw [show f0 - (n - 1) = f0 - n + 1 by omega]
            exact R4
          case measure => simp [intOf]; omega
        · have hn : n = 0 := by omega
          subst hn
          rw [Int.sub_zero] at R2
          refine (R2.state hwd hwl).mono ?_
          rintro e w2 ⟨rfl, R3⟩
          clear c0 c1 R2
          have c0 := R3.cell S0.out HP.out
          have c1 := R3.cell S1.out HP.out
          have hst : stS (f0 * 4) = 0 := by unfold stS; omega
          rw [hst]
          go_wp2_with fail
          refine (R3.did t2 true t2 0 (HG.out _ (by omega) (by omega)) (by omega) (didN_well (by omega))).mono ?_
          rintro e w3 ⟨rfl, R4⟩
          clear c0 c1 R3
          have c0 := R4.cell S0.out HP.out
          have c1 := R4.cell S1.out HP.out
          go_wp2_with fail
          refine (R4.stands 0 0 0 true hwd hwl (by decide)).mono ?_
          rintro e w4 ⟨rfl, R5⟩
          clear c0 c1 R4
          go_wp2_with fail
          go_roundw
          case rel => exact ⟨k + 1, t2, t2, rfl, by go_num, by omega, by omega, by omega, by omega, by omega, by omega, R5⟩
          case measure => simp [intOf]; omega
    · clear hIr
      go_wp2_with fail
      all_goals
        first
        | omega
        | (refine (R.spots).mono ?_
           rintro e w2 ⟨sp, scap, rfl, R3⟩
           go_wp2_with fail
           refine (works_any _).mono ?_
           rintro e w5 ⟨rfl, hB5⟩
           go_wp2
           go_ret
           have := HW.out.size
           exact ⟨rfl, (HW.out.trans (R3.frame.to_below HW.out.size (fun i hi hp => Nat.not_le_of_lt hi (HPL.out i hp)))).trans (hB5.mono (Nat.le_trans this R3.size))⟩)
#print axioms keeps_any
end Go.Proofs.Ytckmjglomofooaa
