/-
  The fuse seat: FuseApart: the walk.
-/
import Derived.Test.YtckmjglomofooaaFr
namespace Go.Proofs.Ytckmjglomofooaa
open Go.RowKit

set_option maxRecDepth 100000 in
set_option maxHeartbeats 8000000 in
theorem apart_any (X0 X1 which : Int) (p : Option Addr) (len cap : Nat) (a0 : -9223372036854775808 ≤ X0) (a1 : X0 ≤ 9223372036854775807) (b0 : -9223372036854775808 ≤ X1) (b1 : X1 ≤ 9223372036854775807) (c0 : -9223372036854775808 ≤ which) (c1 : which ≤ 9223372036854775807) (w : World) (hC : CallsAt w p len) :
    Calls Try.prog 4 #[.agg #[.int .i64 X0, .int .i64 X1], .slice p len cap, .int .i64 which] w fun e w' => e = .returned (.bool true) ∧ Below w.heap.size w w' := by
  have q1 : 0 ≤ X0 % 4 := Int.emod_nonneg _ (by decide)
  have q2 : X0 % 4 < 4 := Int.emod_lt_of_pos _ (by decide)
  have q3 : 0 ≤ X1 % 9 := Int.emod_nonneg _ (by decide)
  have q4 : X1 % 9 < 9 := Int.emod_lt_of_pos _ (by decide)
  have q9 : 0 ≤ which % 9 := Int.emod_nonneg _ (by decide)
  have q10 : which % 9 < 9 := Int.emod_lt_of_pos _ (by decide)
  have hsp := fun W => spot_any which c0 c1 W
  have HC := Lib.hid hC
  clear hC
  generalize which % 9 = s at *
  have HSP := Lib.hid hsp
  clear hsp
  go_enter Try.func4, Try.ntmps4
  go_wp2_with fail
  refine (works_any _).mono ?_
  rintro e w1 ⟨rfl, hB0⟩
  have k1 : w1.cell? ⟨w.heap.size, 0, none⟩ = some (.int .i64 X0) := by rw [hB0.cell (by simp)]; simp
  have k2 : w1.cell? ⟨w.heap.size, 1, none⟩ = some (.int .i64 X1) := by rw [hB0.cell (by simp)]; simp
  have hB : Below w.heap.size w w1 := ((Below.refl _ w).alloc (Nat.le_refl _) _).trans (hB0.mono (by simp))
  clear hB0
  go_wp2_with fail
  go_quiet ((go_at_call 11; exact Calls.quiet_of_same ((bring_any _ _ (by omega) (by omega) (by omega) (by omega) _).mono fun _ _ ⟨a, b⟩ => ⟨a, b.symm⟩)))
  generalize X0 % 4 = m0 at *
  generalize X1 % 9 = r0 at *
  have hBn : Below w.heap.size w (w1.drewN nq) := ⟨hB.os, hB.tape, hB.output, hB.size, hB.block⟩
  generalize w1.drewN nq = w2 at *
  clear k1 k2 hB
  go_wp2_with fail
  refine (new_ok (1 + m0) (1 + r0) (by omega) (by omega) (by omega) (by omega) _).mono ?_
  rintro e w3 ⟨a, am, rfl, h1, hB1, ha1, ha2⟩
  go_wp2_with fail
  refine (new_ok (1 + m0) (1 + r0) (by omega) (by omega) (by omega) (by omega) _).mono ?_
  rintro e w4 ⟨b, bm, rfl, h2, hB2, hb1, hb2⟩
  go_wp2_with fail
  refine (HSP.out _).mono ?_
  rintro e w5 ⟨rfl, f1⟩
  have s0 : (w5.alloc (.cells #[.int .i64 (s / 3), .int .i64 (s % 3)] 32)).cell? ⟨w5.heap.size, 0, none⟩ = some (.int .i64 (s / 3)) := by simp
  have s1 : (w5.alloc (.cells #[.int .i64 (s / 3), .int .i64 (s % 3)] 32)).cell? ⟨w5.heap.size, 1, none⟩ = some (.int .i64 (s % 3)) := by simp
  have f2 : Fr w4 (w5.alloc (.cells #[.int .i64 (s / 3), .int .i64 (s % 3)] 32)) (fun _ => False) := f1.alloc _
  have l1 := h1.fuseLt
  have l2 := h2.fuseLt
  have e1 := l1 a (.inl rfl)
  have e2 := l1 am (.inr (.inl rfl))
  have e3 := l2 b (.inl rfl)
  have e4 := l2 bm (.inr (.inl rfl))
  have z1 := hBn.size
  have z2 := hB1.size
  have z3 := hB2.size
  have z4 := f1.size
  have z5 : (w5.alloc (.cells #[.int .i64 (s / 3), .int .i64 (s % 3)] 32)).heap.size = w5.heap.size + 1 := by simp
  have T0 : Two (w5.alloc (.cells #[.int .i64 (s / 3), .int .i64 (s % 3)] 32)) (fun k => w.heap.size ≤ k ∧ k ≠ w5.heap.size) (w5.alloc (.cells #[.int .i64 (s / 3), .int .i64 (s % 3)] 32)) a b (1 + m0) (1 + r0) 0 (fun _ _ => 0) 0 (fun _ _ => 0) :=
    Two.start h1 h2 hB2 hb1 hb2 f2 ⟨by omega, by omega⟩ ⟨by omega, by omega⟩ ⟨by omega, by omega⟩ ⟨by omega, by omega⟩ (fun k hk => ⟨by omega, by omega⟩)
  have hW : Below w.heap.size w (w5.alloc (.cells #[.int .i64 (s / 3), .int .i64 (s % 3)] 32)) :=
    (hBn.trans (hB1.mono z1)).trans ((hB2.mono (Nat.le_trans z1 z2)).trans (f2.to_below (Nat.le_trans z1 (Nat.le_trans z2 z3)) (fun _ _ h => h)))
  have hwd : (Lit.int .i64 (s / 3)).wf = true := wf_i64 (by omega) (by omega)
  have hwl : (Lit.int .i64 (s % 3)).wf = true := wf_i64 (by omega) (by omega)
  have hbs : w.heap.size ≤ w5.heap.size := by omega
  have HW := Lib.hid hW
  have S0 := Lib.hid s0
  have S1 := Lib.hid s1
  clear hW s0 s1 h1 h2 hB1 hB2 ha1 ha2 hb1 hb2 f1 f2 l1 l2 e1 e2 e3 e4 z1 z2 z3 z4 z5 hBn
  go_wp2_with fail
  generalize w5.heap.size = bs at *
  generalize w5.alloc (.cells #[.int .i64 (s / 3), .int .i64 (s % 3)] 32) = wS at *
  go_loopg [14, 15] 100 (fun g tv iv wr => ∃ (k : Nat) (t no : Int) (sa so : Int → Int → Int), g = 100 - k ∧ tv = .int .i64 t ∧ iv = .int .i64 k ∧ k ≤ len ∧ k ≤ 100 ∧ 0 ≤ t ∧ t ≤ 4 * k ∧ no ≤ t ∧ sa (s / 3) (s % 3) = so (s / 3) (s % 3) ∧ Two wS (fun k => w.heap.size ≤ k ∧ k ≠ bs) wr a b (1 + m0) (1 + r0) t sa no so)
  case atStart => exact ⟨0, 0, 0, _, _, rfl, rfl, rfl, by omega, by omega, by omega, by omega, by omega, rfl, T0⟩
  case round =>
    obtain ⟨k, t, no, sa, so, hg, rfl, rfl, k0, k1, t0, t1, n0, hss, T⟩ := hrel
    clear T0
    by_cases hl : k < len ∧ k < 100
    · obtain ⟨hl, hl60⟩ := hl
      obtain ⟨bb, off, rfl, hbb, hc⟩ := HC.out (by omega)
      obtain ⟨sp, wh, on, x0, x1, x2, y0, y1, y2⟩ := hc k hl
      have hnb : ¬ (w.heap.size ≤ bb ∧ bb ≠ bs) := fun h => Nat.not_le_of_lt hbb h.1
      have hold : ∀ (wx : World) (na nb : Int) (sa sb : Int → Int → Int), Two wS (fun k => w.heap.size ≤ k ∧ k ≠ bs) wx a b (1 + m0) (1 + r0) na sa nb sb → (wx.cell? ⟨bb, off + k * 3, none⟩ = some (.int .i64 sp) ∧ wx.cell? ⟨bb, off + k * 3 + 1, none⟩ = some (.int .i64 wh) ∧ wx.cell? ⟨bb, off + k * 3 + 2, none⟩ = some (.int .i64 on)) ∧
          wx.cell? ⟨bs, 0, none⟩ = some (.int .i64 (s / 3)) ∧ wx.cell? ⟨bs, 1, none⟩ = some (.int .i64 (s % 3)) := fun wx na nb sa sb T =>
        ⟨⟨T.old HW.out hbb hnb x0, T.old HW.out hbb hnb x1, T.old HW.out hbb hnb x2⟩, T.cell S0.out (fun h => h.2 rfl), T.cell S1.out (fun h => h.2 rfl)⟩
      have HO := Lib.hid hold
      clear hc x0 x1 x2 hold hnb
      obtain ⟨⟨c0, c1, c2⟩, c3, c4⟩ := HO.out _ _ _ _ _ T
      have hk1 : ((k : Int) < (len : Int)) := by omega
      have hk2 : ((k : Int) < 100) := by omega
      go_wp2_with fail
      refine (bring_any on 4 y2.1 y2.2 (by omega) (by omega) _).mono ?_
      rintro e w' ⟨rfl, rfl⟩
      have z0 : 0 ≤ on % 4 := Int.emod_nonneg _ (by omega)
      have z1 : on % 4 < 4 := Int.emod_lt_of_pos _ (by omega)
      generalize on % 4 = o at *
      obtain ⟨t', ht'⟩ : ∃ t', t + o = t' := ⟨_, rfl⟩
      obtain ⟨q, hq⟩ : ∃ q, sp % 9 = q := ⟨_, rfl⟩
      have k2 : 0 ≤ q := by omega
      have k3 : q < 9 := by omega
      have HQ := Lib.hid hq
      clear hq
      obtain ⟨r, hr⟩ : ∃ r, doR (wh % 5) (sa (q / 3) (q % 3)) t' = r := ⟨_, rfl⟩
      obtain ⟨s', hs⟩ : ∃ s', upd sa (q / 3) (q % 3) (doN (wh % 5) (sa (q / 3) (q % 3)) t' (1 + m0) (1 + r0)) = s' := ⟨_, rfl⟩
      have HR := Lib.hid hr
      have HS := Lib.hid hs
      have HSS := Lib.hid hss
      clear hr hs hss
      go_wp2_with fail
      refine (T.doesq sp q wh on t' t' r s' HQ.out y0.1 y0.2 y1.1 y1.2 (by omega) (by omega) (by omega) HR.out HS.out).mono ?_
      rintro e w6 ⟨rfl, T1⟩
      clear c0 c1 c2 c3 c4 T
      go_upto_region 14 with fail
      go_cut [93] from 50 to 107 (fun s93 wc => s93 = .bool false ∧ ∃ no' so', no' ≤ t' ∧ s' (s / 3) (s % 3) = so' (s / 3) (s % 3) ∧ Two wS (fun k => w.heap.size ≤ k ∧ k ≠ bs) wc a b (1 + m0) (1 + r0) t' s' no' so')
      case first =>
        have Td := T1.quiet (w' := w6.drew) ((Fr.refl w6 (fun _ => False)).drew)
        have TD := Lib.hid Td
        clear Td T1
        have K0 := Lib.hid (fun (W : World) => spot_q sp q HQ.out y0.1 y0.2 W)
        by_cases e1 : q = s
        · subst e1
          have hr2 : doR (wh % 5) (so (q / 3) (q % 3)) t' = r := by rw [← HSS.out]; exact HR.out
          obtain ⟨so', hso⟩ : ∃ so', upd so (q / 3) (q % 3) (doN (wh % 5) (so (q / 3) (q % 3)) t' (1 + m0) (1 + r0)) = so' := ⟨_, rfl⟩
          have hm1 : max no t' = t' := by omega
          have hm2 : 0 ≤ t' := by omega
          have hm3 : t' ≤ 4503599627370496 := by omega
          have hss2 : s' (q / 3) (q % 3) = so' (q / 3) (q % 3) := by
            rw [← HS.out, ← hso]
            simp only [upd, and_self, if_true]
            rw [HSS.out]
          have K2 := Lib.hid (fun (wx : World) (T2 : Two wS (fun k => w.heap.size ≤ k ∧ k ≠ bs) wx a b (1 + m0) (1 + r0) t' s' no so) => T2.swap.doesq sp q wh on t' t' r so' HQ.out y0.1 y0.2 y1.1 y1.2 hm2 hm3 hm1 hr2 hso)
          have HSS2 := Lib.hid hss2
          clear hss2 hm1 hm2 hm3 hr2 hso
          go_region_held3 (fun wx => (wx.cell? ⟨bb, off + k * 3, none⟩ = some (.int .i64 sp) ∧ wx.cell? ⟨bb, off + k * 3 + 1, none⟩ = some (.int .i64 wh) ∧ wx.cell? ⟨bb, off + k * 3 + 2, none⟩ = some (.int .i64 on)) ∧ wx.cell? ⟨bs, 0, none⟩ = some (.int .i64 (q / 3)) ∧ wx.cell? ⟨bs, 1, none⟩ = some (.int .i64 (q % 3)))
            (first | exact HO.out _ _ _ _ _ TD.out | exact HO.out _ _ _ _ _ T2 | exact HO.out _ _ _ _ _ T3.swap)
            (first
            | (go_at_call 18
               refine (K0.out _).mono ?_
               rintro e w7 ⟨rfl, f3⟩
               have T2 := TD.out.quiet f3)
            | (go_at_call 19
               refine (K2.out _ T2).mono ?_
               rintro e w8 ⟨rfl, T3⟩))
          all_goals (go_wp2_with fail; go_meet)
          case rel => exact ⟨rfl, t', so', Int.le_refl _, HSS2.out, T3.swap⟩
        · have hss2 : s' (s / 3) (s % 3) = so (s / 3) (s % 3) := by
            rw [← HS.out, ← HSS.out]
            unfold upd
            rw [if_neg (by omega)]
          have HSS2 := Lib.hid hss2
          clear hss2
          have e2 : (decide (q / 3 = s / 3) && decide (q % 3 = s % 3)) = false := by
            rw [Bool.and_eq_false_iff, decide_eq_false_iff_not, decide_eq_false_iff_not]
            omega
          have E2 := Lib.hid e2
          clear e2
          refine wp_region_held_drew (S := (fun wx => (wx.cell? ⟨bb, off + k * 3, none⟩ = some (.int .i64 sp) ∧ wx.cell? ⟨bb, off + k * 3 + 1, none⟩ = some (.int .i64 wh) ∧ wx.cell? ⟨bb, off + k * 3 + 2, none⟩ = some (.int .i64 on)) ∧ wx.cell? ⟨bs, 0, none⟩ = some (.int .i64 (s / 3)) ∧ wx.cell? ⟨bs, 1, none⟩ = some (.int .i64 (s % 3)))) (by kernel_rfl) (HO.out _ _ _ _ _ TD.out) (fun hHeld => ?_)
          refine wpAnyH_take (i := 0) (oi := { dst := some 75, op := Op.move (Operand.tmp 1), type := 45, pos := "outright.go:64", after := #[], guard := none }) (v := ?v0) rfl (by kernel_rfl) (by kernel_rfl) (by kernel_rfl) (fun _ _ _ h => h) (Or.inl ⟨by rfl, ?hy0⟩) (by assumption) ?rest0
          case hy0 =>
            intro w hSw
            try dsimp only at hSw
            go_simp
            try with_reducible rfl
          case rest0 =>
            try simp only [Act.put, List.setIfInBounds_toArray, List.set_cons_zero, List.set_cons_succ]
            refine wpAnyH_take (i := 1) (oi := { dst := some 76, op := Op.move (Operand.tmp 15), type := 3, pos := "outright.go:64", after := #[], guard := none }) (v := ?v1) rfl (by kernel_rfl) (by kernel_rfl) (by kernel_rfl) (fun _ _ _ h => h) (Or.inl ⟨by rfl, ?hy1⟩) (by assumption) ?rest1
            case hy1 =>
              intro w hSw
              try dsimp only at hSw
              go_simp
              try with_reducible rfl
            case rest1 =>
              try simp only [Act.put, List.setIfInBounds_toArray, List.set_cons_zero, List.set_cons_succ]
              refine wpAnyH_take (i := 2) (oi := { dst := some 77, op := Op.indexAddr 45 (Operand.tmp 75) (Operand.tmp 76), type := 0, pos := "outright.go:64", after := #[{ on := 0, ground := Ground.data }, { on := 1, ground := Ground.data }], guard := none }) (v := ?v2) rfl (by kernel_rfl) (by kernel_rfl) (by kernel_rfl) (fun _ _ _ h => h) (Or.inl ⟨by rfl, ?hy2⟩) (by assumption) ?rest2
              case hy2 =>
                intro w hSw
                try dsimp only at hSw
                go_simp
                try with_reducible rfl
              case rest2 =>
                try simp only [Act.put, List.setIfInBounds_toArray, List.set_cons_zero, List.set_cons_succ]
                refine wpAnyH_take (i := 3) (oi := { dst := some 78, op := Op.fieldAddr 48 (Operand.tmp 77) 0, type := 0, pos := "outright.go:64", after := #[{ on := 2, ground := Ground.data }], guard := none }) (v := ?v3) rfl (by kernel_rfl) (by kernel_rfl) (by kernel_rfl) (fun _ _ _ h => h) (Or.inl ⟨by rfl, ?hy3⟩) (by assumption) ?rest3
                case hy3 =>
                  intro w hSw
                  try dsimp only at hSw
                  go_simp
                  try with_reducible rfl
                case rest3 =>
                  try simp only [Act.put, List.setIfInBounds_toArray, List.set_cons_zero, List.set_cons_succ]
                  refine wpAnyH_take (i := 4) (oi := { dst := some 79, op := Op.load 3 (Operand.tmp 78), type := 3, pos := "outright.go:64", after := #[{ on := 3, ground := Ground.data }], guard := none }) (v := ?v4) rfl (by kernel_rfl) (by kernel_rfl) (by kernel_rfl) (fun _ _ _ h => h) (Or.inl ⟨by rfl, ?hy4⟩) (by assumption) ?rest4
                  case hy4 =>
                    intro w hSw
                    try dsimp only at hSw
                    go_simp
                    try with_reducible rfl
                  case rest4 =>
                    try simp only [Act.put, List.setIfInBounds_toArray, List.set_cons_zero, List.set_cons_succ]
                    refine wpAnyH_take (i := 6) (oi := { dst := some 81, op := Op.load 32 (Operand.tmp 13), type := 32, pos := "outright.go:64", after := #[], guard := none }) (v := ?v6) rfl (by kernel_rfl) (by kernel_rfl) (by kernel_rfl) (fun _ _ _ h => h) (Or.inl ⟨by rfl, ?hy6⟩) (by assumption) ?rest6
                    case hy6 =>
                      intro w hSw
                      try dsimp only at hSw
                      go_simp
                      try with_reducible rfl
                    case rest6 =>
                      try simp only [Act.put, List.setIfInBounds_toArray, List.set_cons_zero, List.set_cons_succ]
                      refine wpAnyH_ready (rs := [5]) (by kernel_rfl) (by simp) ?_
                      refine AllReadyH.cons (o := { dst := some 80, op := Op.call { callee := Callee.value (Operand.func 18), args := #[Operand.tmp 79], argTypes := #[3] }, type := 32, pos := "outright.go:64", after := #[{ on := 4, ground := Ground.data }], guard := none }) rfl (fun K hK => ?_) AllReadyH.nil
                      go_simp
                      refine (K0.out _).mono ?_
                      rintro e w7 ⟨rfl, f3⟩
                      have T2 := TD.out.quiet f3
                      refine hK.out _ _ (HO.out _ _ _ _ _ T2) (fun hHeld2 => ?_)
                      clear hK K hHeld
                      try simp only [Act.put, List.setIfInBounds_toArray, List.set_cons_zero, List.set_cons_succ]
                      refine wpAnyH_take (i := 7) (oi := { dst := some 82, op := Op.binOp BinOp.eql 32 (Operand.tmp 80) (Operand.tmp 81) 32, type := 4, pos := "outright.go:64", after := #[{ on := 5, ground := Ground.data }, { on := 6, ground := Ground.data }], guard := none }) (v := .bool false) rfl (by kernel_rfl) (by kernel_rfl) (by kernel_rfl) (fun _ _ _ h => h) (Or.inl ⟨by rfl, ?hy7⟩) (by assumption) ?rest7
                      case hy7 =>
                        intro w hSw
                        try dsimp only at hSw
                        go_simp
                        first | exact E2.out | simpa using E2.out | (simp; have := E2.out; simp at this; omega)
                      case rest7 =>
                        try simp only [Act.put, List.setIfInBounds_toArray, List.set_cons_zero, List.set_cons_succ]
                        refine wpAnyH_take (i := 8) (oi := { dst := some 83, op := Op.move (Operand.tmp 82), type := 4, pos := "outright.go:64", after := #[{ on := 7, ground := Ground.data }, { on := 5, ground := Ground.chain }], guard := none }) (v := ?v8) rfl (by kernel_rfl) (by kernel_rfl) (by kernel_rfl) (fun _ _ _ h => h) (Or.inl ⟨by rfl, ?hy8⟩) (by assumption) ?rest8
                        case hy8 =>
                          intro w hSw
                          try dsimp only at hSw
                          go_simp
                          try with_reducible rfl
                        case rest8 =>
                          try simp only [Act.put, List.setIfInBounds_toArray, List.set_cons_zero, List.set_cons_succ]
                          refine wpAnyH_take (i := 9) (oi := { dst := some 84, op := Op.move (Operand.tmp 11), type := 23, pos := "outright.go:64", after := #[{ on := 8, ground := Ground.guard }], guard := some (8, true) }) (v := undef) rfl (by kernel_rfl) (by kernel_rfl) (by kernel_rfl) (fun _ _ _ h => h) (Or.inr ⟨by rfl, rfl⟩) (by assumption) ?_
                          try simp only [Act.put, List.setIfInBounds_toArray, List.set_cons_zero, List.set_cons_succ]
                          refine wpAnyH_take (i := 10) (oi := { dst := some 85, op := Op.move (Operand.tmp 1), type := 45, pos := "outright.go:64", after := #[{ on := 8, ground := Ground.guard }], guard := some (8, true) }) (v := undef) rfl (by kernel_rfl) (by kernel_rfl) (by kernel_rfl) (fun _ _ _ h => h) (Or.inr ⟨by rfl, rfl⟩) (by assumption) ?_
                          try simp only [Act.put, List.setIfInBounds_toArray, List.set_cons_zero, List.set_cons_succ]
                          refine wpAnyH_take (i := 11) (oi := { dst := some 86, op := Op.move (Operand.tmp 15), type := 3, pos := "outright.go:64", after := #[{ on := 8, ground := Ground.guard }], guard := some (8, true) }) (v := undef) rfl (by kernel_rfl) (by kernel_rfl) (by kernel_rfl) (fun _ _ _ h => h) (Or.inr ⟨by rfl, rfl⟩) (by assumption) ?_
                          try simp only [Act.put, List.setIfInBounds_toArray, List.set_cons_zero, List.set_cons_succ]
                          refine wpAnyH_take (i := 12) (oi := { dst := some 87, op := Op.indexAddr 45 (Operand.tmp 85) (Operand.tmp 86), type := 0, pos := "outright.go:64", after := #[{ on := 10, ground := Ground.data }, { on := 11, ground := Ground.data }, { on := 8, ground := Ground.guard }], guard := some (8, true) }) (v := undef) rfl (by kernel_rfl) (by kernel_rfl) (by kernel_rfl) (fun _ _ _ h => h) (Or.inr ⟨by rfl, rfl⟩) (by assumption) ?_
                          try simp only [Act.put, List.setIfInBounds_toArray, List.set_cons_zero, List.set_cons_succ]
                          refine wpAnyH_take (i := 13) (oi := { dst := some 88, op := Op.load 48 (Operand.tmp 87), type := 48, pos := "outright.go:64", after := #[{ on := 12, ground := Ground.data }, { on := 8, ground := Ground.guard }], guard := some (8, true) }) (v := undef) rfl (by kernel_rfl) (by kernel_rfl) (by kernel_rfl) (fun _ _ _ h => h) (Or.inr ⟨by rfl, rfl⟩) (by assumption) ?_
                          try simp only [Act.put, List.setIfInBounds_toArray, List.set_cons_zero, List.set_cons_succ]
                          refine wpAnyH_take (i := 14) (oi := { dst := some 89, op := Op.move (Operand.tmp 14), type := 3, pos := "outright.go:64", after := #[{ on := 8, ground := Ground.guard }], guard := some (8, true) }) (v := undef) rfl (by kernel_rfl) (by kernel_rfl) (by kernel_rfl) (fun _ _ _ h => h) (Or.inr ⟨by rfl, rfl⟩) (by assumption) ?_
                          try simp only [Act.put, List.setIfInBounds_toArray, List.set_cons_zero, List.set_cons_succ]
                          refine wpAnyH_take (i := 15) (oi := { dst := some 90, op := Op.call { callee := Callee.value (Operand.func 19), args := #[Operand.tmp 84, Operand.tmp 88, Operand.tmp 89], argTypes := #[23, 48, 3] }, type := 24, pos := "outright.go:64", after := #[{ on := 9, ground := Ground.data }, { on := 13, ground := Ground.data }, { on := 14, ground := Ground.data }, { on := 8, ground := Ground.chain }, { on := 8, ground := Ground.guard }], guard := some (8, true) }) (v := undef) rfl (by kernel_rfl) (by kernel_rfl) (by kernel_rfl) (fun _ _ _ h => h) (Or.inr ⟨by rfl, rfl⟩) (by assumption) ?_
                          try simp only [Act.put, List.setIfInBounds_toArray, List.set_cons_zero, List.set_cons_succ]
                          refine wpAnyH_take (i := 16) (oi := { dst := some 91, op := Op.move (Operand.tmp 16), type := 24, pos := "outright.go:64", after := #[{ on := 8, ground := Ground.guard }], guard := some (8, true) }) (v := undef) rfl (by kernel_rfl) (by kernel_rfl) (by kernel_rfl) (fun _ _ _ h => h) (Or.inr ⟨by rfl, rfl⟩) (by assumption) ?_
                          try simp only [Act.put, List.setIfInBounds_toArray, List.set_cons_zero, List.set_cons_succ]
                          refine wpAnyH_take (i := 17) (oi := { dst := some 92, op := Op.binOp BinOp.neq 24 (Operand.tmp 90) (Operand.tmp 91) 24, type := 4, pos := "outright.go:64", after := #[{ on := 15, ground := Ground.data }, { on := 16, ground := Ground.data }, { on := 8, ground := Ground.guard }], guard := some (8, true) }) (v := undef) rfl (by kernel_rfl) (by kernel_rfl) (by kernel_rfl) (fun _ _ _ h => h) (Or.inr ⟨by rfl, rfl⟩) (by assumption) ?_
                          try simp only [Act.put, List.setIfInBounds_toArray, List.set_cons_zero, List.set_cons_succ]
                          refine wpAnyH_take (i := 18) (oi := { dst := some 93, op := Op.pick (Operand.tmp 83) (Operand.tmp 92) (Operand.const (Value.bool false)), type := 4, pos := "outright.go:64", after := #[{ on := 8, ground := Ground.data }, { on := 17, ground := Ground.data }], guard := none }) (v := ?v18) rfl (by kernel_rfl) (by kernel_rfl) (by kernel_rfl) (fun _ _ _ h => h) (Or.inl ⟨by rfl, ?hy18⟩) (by assumption) ?rest18
                          case hy18 =>
                            intro w hSw
                            try dsimp only at hSw
                            go_simp
                            try with_reducible rfl
                          case rest18 =>
                            try simp only [Act.put, List.setIfInBounds_toArray, List.set_cons_zero, List.set_cons_succ]
                            refine wpAnyH_done (by kernel_rfl) ?_ _
                            go_wp2_with fail
                            go_meet
                            case rel => exact ⟨rfl, no, so, by omega, HSS2.out, T2⟩
      case rest =>
        obtain ⟨rfl, no', so', n1, hss2, T4⟩ := hcut
        obtain ⟨⟨c0, c1, c2⟩, c3, c4⟩ := HO.out _ _ _ _ _ T4
        clear c0 c1 c2
        go_wp2_with fail
        refine (T4.state _ _ hwd hwl).mono ?_
        rintro e2 w9 ⟨rfl, T5⟩
        clear T4 c3 c4
        obtain ⟨⟨c0, c1, c2⟩, c3, c4⟩ := HO.out _ _ _ _ _ T5
        clear c0 c1 c2
        obtain ⟨n, hn⟩ : ∃ n, s' (s / 3) (s % 3) = n := ⟨_, rfl⟩
        have hn2 : so' (s / 3) (s % 3) = n := by rw [← hss2]; exact hn
        have HN := Lib.hid hss2
        clear hss2
        rw [hn]
        go_wp2_with fail
        refine (T5.swap.stood _ _ _ _ _ hwd hwl (by rw [hn2]) (by rw [hn2]) (by rw [hn2])).mono ?_
        rintro e2 w10 ⟨rfl, T6⟩
        clear T5 c3 c4
        go_wp2_with fail
        go_roundg (100 - (k + 1))
        case measure => omega
        case rel => exact ⟨k + 1, t', no', s', so', rfl, rfl, by go_num, by omega, by omega, by omega, by omega, by omega, HN.out, T6.swap⟩
    · have hW := HW.out
      go_wp2_with fail
      all_goals
        first
        | omega
        | (go_ret
           exact ⟨rfl, hW.trans (T.frame.to_below hW.size (fun i hi hp => Nat.not_le_of_lt hi hp.1))⟩)
#print axioms apart_any
end Go.Proofs.Ytckmjglomofooaa
