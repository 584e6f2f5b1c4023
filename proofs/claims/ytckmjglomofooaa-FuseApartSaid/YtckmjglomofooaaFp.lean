/-
  The fuse seat: FuseTicks: the walk.
-/
import Derived.Test.YtckmjglomofooaaFr
namespace Go.Proofs.Ytckmjglomofooaa
open Go.RowKit

set_option maxRecDepth 100000 in
set_option maxHeartbeats 6000000 in
theorem ticks_any (p p2 : Option Addr) (len cap len2 cap2 : Nat) (w : World) (hC : CallsAt w p len) (hI : IntsAt w p2 len2) :
    Calls Try.prog 7 #[.slice p len cap, .slice p2 len2 cap2] w fun e w' => e = .returned (.bool true) ∧ Below w.heap.size w w' := by
  have HC := Lib.hid hC
  have HI := Lib.hid hI
  clear hC hI
  go_enter Try.func7, Try.ntmps7
  go_wp2_with fail
  refine (new_ok 2 6 (by decide) (by decide) (by decide) (by decide) _).mono ?_
  rintro e w1 ⟨a, am, rfl, h1, hB1, ha1, ha2⟩
  go_wp2_with fail
  refine (new_ok 2 6 (by decide) (by decide) (by decide) (by decide) _).mono ?_
  rintro e wS ⟨b, bm, rfl, h2, hB2, hb1, hb2⟩
  have T0 : Two wS (fun k => w.heap.size ≤ k) wS a b 2 6 0 (fun _ _ => 0) 0 (fun _ _ => 0) := Two.start h1 h2 hB2 hb1 hb2 (Fr.refl _ _) ha1 ha2 (Nat.le_trans hB1.size hb1) (Nat.le_trans hB1.size hb2) (fun k hk => Nat.le_trans (Nat.le_trans hB1.size hB2.size) hk)
  have hW : Below w.heap.size w wS := hB1.trans (hB2.mono hB1.size)
  have HW := Lib.hid hW
  clear hW h1 h2 hB1 hB2 ha1 ha2 hb1 hb2
  go_wp2_with fail
  go_loopg [9, 10] 60 (fun g tv iv wr => ∃ (k : Nat) (t : Int) (st : Int → Int → Int), g = 60 - k ∧ tv = .int .i64 t ∧ iv = .int .i64 k ∧ k ≤ len ∧ k ≤ 60 ∧ 0 ≤ t ∧ t ≤ 4 * k ∧ st 9 0 = 0 ∧ Two wS (fun k => w.heap.size ≤ k) wr a b 2 6 t st t st)
  case atStart => exact ⟨0, 0, _, rfl, rfl, rfl, by omega, by omega, by omega, by omega, rfl, T0⟩
  case round =>
    obtain ⟨k, t, st, hg, rfl, rfl, k0, k1, t0, t1, h90, T⟩ := hrel
    clear T0
    by_cases hl : k < len ∧ k < 60
    · obtain ⟨hl, hl60⟩ := hl
      obtain ⟨bb, off, rfl, hbb, hc⟩ := HC.out (by omega)
      obtain ⟨sp, wh, on, x0, x1, x2, y0, y1, y2⟩ := hc k hl
      have hold : ∀ (wx : World) (na nb : Int) (sa sb : Int → Int → Int), Two wS (fun k => w.heap.size ≤ k) wx a b 2 6 na sa nb sb → wx.cell? ⟨bb, off + k * 3, none⟩ = some (.int .i64 sp) ∧ wx.cell? ⟨bb, off + k * 3 + 1, none⟩ = some (.int .i64 wh) ∧ wx.cell? ⟨bb, off + k * 3 + 2, none⟩ = some (.int .i64 on) := fun wx na nb sa sb T =>
        ⟨T.old HW.out hbb (Nat.not_le_of_lt hbb) x0, T.old HW.out hbb (Nat.not_le_of_lt hbb) x1, T.old HW.out hbb (Nat.not_le_of_lt hbb) x2⟩
      have HO := Lib.hid hold
      clear hc x0 x1 x2 hold
      obtain ⟨c0, c1, c2⟩ := HO.out _ _ _ _ _ T
      have hk1 : ((k : Int) < (len : Int)) := by omega
      have hk2 : ((k : Int) < 60) := by omega
      go_wp2_with fail
      refine (bring_any on 4 y2.1 y2.2 (by omega) (by omega) _).mono ?_
      rintro e w' ⟨rfl, rfl⟩
      have z0 : 0 ≤ on % 4 := Int.emod_nonneg _ (by omega)
      have z1 : on % 4 < 4 := Int.emod_lt_of_pos _ (by omega)
      generalize on % 4 = o at *
      obtain ⟨t', ht'⟩ : ∃ t', t + o = t' := ⟨_, rfl⟩
      obtain ⟨q, hq⟩ : ∃ q, sp % 9 = q := ⟨_, rfl⟩
      have k2 : 0 ≤ q := by omega
      have k3 : q < 9 := by omega
      have HQ := Lib.hid hq
      clear hq
      go_upto_if 51 with fail
      go_cut [11] from 29 to 131 (fun ev wc => wr = wc ∧ ∃ e : Int, ev = .int .i64 e ∧ 0 ≤ e ∧ e ≤ t')
      case first =>
        by_cases hl2 : k < len2
        · have hIr := HI.out.below (HW.out.trans (T.frame.to_below HW.out.size (fun i hi hp => Nat.not_le_of_lt hi hp)))
          obtain ⟨b2, off2, rfl, hb2, hc2⟩ := hIr (by omega)
          obtain ⟨x, hx, x0, x1⟩ := hc2 k hl2
          clear hc2 hIr
          have hk3 : ((k : Int) < (len2 : Int)) := by omega
          go_wp2_with fail
          refine (bring_any x 9 x0 x1 (by omega) (by omega) _).mono ?_
          rintro e w' ⟨rfl, rfl⟩
          have y0 : 0 ≤ x % 9 := Int.emod_nonneg _ (by omega)
          have y1 : x % 9 < 9 := Int.emod_lt_of_pos _ (by omega)
          generalize x % 9 = f0 at *
          go_wp2_with fail
          go_meet
          case rel => exact ⟨rfl, _, rfl, by omega, by omega⟩
        · have hk3 : ¬ ((k : Int) < (len2 : Int)) := by omega
          go_wp2_with fail
          go_meet
          case rel => exact ⟨rfl, t', rfl, by omega, by omega⟩
      case rest =>
        obtain ⟨rfl, e, rfl, e0, e1⟩ := hcut
        have hok : ¬ BadAt 9 0 t' := by unfold BadAt; omega
        have g1 : askR (st 9 0) t' = 0 := askR_whole (by omega)
        have g2 : upd st 9 0 (askN (st 9 0) t' 6) = st := by rw [askN_whole (by omega)]; exact upd_same
        obtain ⟨r, hr⟩ : ∃ r, doR (wh % 5) (st (q / 3) (q % 3)) t' = r := ⟨_, rfl⟩
        obtain ⟨s', hs⟩ : ∃ s', upd st (q / 3) (q % 3) (doN (wh % 5) (st (q / 3) (q % 3)) t' 2 6) = s' := ⟨_, rfl⟩
        have h90' : s' 9 0 = 0 := by
          rw [← hs]
          unfold upd
          rw [if_neg (by omega)]
          exact h90
        have HASK := Lib.hid hok
        have G1 := Lib.hid g1
        have G2 := Lib.hid g2
        have HR := Lib.hid hr
        have HS := Lib.hid hs
        have H90 := Lib.hid h90'
        clear hok g1 g2 hr hs h90 h90'
        go_upto_region 13 with fail
        go_cut [93] from 29 to 131 (fun s93 wc => s93 = .bool false ∧ Two wS (fun k => w.heap.size ≤ k) wc a b 2 6 t' s' t' s')
        case first =>
          have Td := T.quiet (w' := wr.drew) ((Fr.refl wr (fun _ => False)).drew)
          clear c0 c1 c2
          have hm1 : max t t' = t' := by omega
          have hm2 : max t' e = t' := by omega
          have hm3 : t' ≤ 4503599627370496 := by omega
          have hm4 : e ≤ 4503599627370496 := by omega
          have hm5 : 0 ≤ t' := by omega
          have K1 := Lib.hid (Td.swap.asks 9 0 t' t' 0 st HASK.out hm1 G1.out G2.out)
          have K2 := Lib.hid (fun (wx : World) (T1 : Two wS (fun k => w.heap.size ≤ k) wx b a 2 6 t' st t st) => T1.swap.doesq sp q wh on t' t' r s' HQ.out y0.1 y0.2 y1.1 y1.2 hm5 hm3 hm1 HR.out HS.out)
          have K3 := Lib.hid (fun (wx : World) (T2 : Two wS (fun k => w.heap.size ≤ k) wx a b 2 6 t' s' t' st) => T2.swap.doesq sp q wh on e t' r s' HQ.out y0.1 y0.2 y1.1 y1.2 e0 hm4 hm2 HR.out HS.out)
          have K4 := Lib.hid (fun (wx : World) (T3 : Two wS (fun k => w.heap.size ≤ k) wx b a 2 6 t' s' t' s') => T3.swap.tick)
          have K5 := Lib.hid (fun (wx : World) (T3 : Two wS (fun k => w.heap.size ≤ k) wx b a 2 6 t' s' t' s') (_ : 1 = 1) => T3.tick)
          clear hm1 hm2 hm3 hm4 hm5
          have TD := Lib.hid Td
          clear Td T
          go_region_held3 (fun wx => wx.cell? ⟨bb, off + k * 3, none⟩ = some (.int .i64 sp) ∧ wx.cell? ⟨bb, off + k * 3 + 1, none⟩ = some (.int .i64 wh) ∧ wx.cell? ⟨bb, off + k * 3 + 2, none⟩ = some (.int .i64 on))
            (first | exact HO.out _ _ _ _ _ TD.out | exact HO.out _ _ _ _ _ T1.swap | exact HO.out _ _ _ _ _ T2 | exact HO.out _ _ _ _ _ T3.swap)
            (first
            | (go_at_call 14
               refine (K1.out).mono ?_
               rintro e w2 ⟨rfl, T1⟩)
            | (go_at_call 19
               refine (K3.out _ T2).mono ?_
               rintro e w2 ⟨rfl, T3⟩)
            | (go_at_call 19
               refine (K2.out _ T1).mono ?_
               rintro e w2 ⟨rfl, T2⟩)
            | (go_at_call 23
               refine (K5.out _ T3 M1).mono ?_
               rintro e w' ⟨rfl, rfl⟩)
            | (go_at_call 23
               refine (K4.out _ T3).mono ?_
               rintro e w' ⟨rfl, rfl⟩
               have M1 : 1 = 1 := rfl))
          all_goals (go_wp2_with fail; go_meet)
          case rel => exact ⟨rfl, T3.swap⟩
        case rest =>
          obtain ⟨rfl, T4⟩ := hcut
          clear c0 c1 c2
          have hwd : (Lit.int .i64 (q / 3)).wf = true := wf_i64 (by omega) (by omega)
          have hwl : (Lit.int .i64 (q % 3)).wf = true := wf_i64 (by omega) (by omega)
          have b1 : BadAt 1 0 (-1) := by unfold BadAt; omega
          have b2 : BadAt (-1) 0 (t' + 50) := by unfold BadAt; omega
          have HB1 := Lib.hid b1
          have HB2 := Lib.hid b2
          clear b1 b2
          obtain ⟨c0, c1, c2⟩ := HO.out _ _ _ _ _ T4
          go_wp2_with fail
          refine (spot_q sp q HQ.out y0.1 y0.2 _).mono ?_
          rintro e2 w2 ⟨rfl, f2⟩
          have T5 := T4.quiet f2
          clear c0 c1 c2 T4 f2
          go_wp2_with fail
          refine (T5.state _ _ hwd hwl).mono ?_
          rintro e2 w3 ⟨rfl, T6⟩
          clear T5
          obtain ⟨c0, c1, c2⟩ := HO.out _ _ _ _ _ T6
          obtain ⟨n, hn⟩ : ∃ n, s' (q / 3) (q % 3) = n := ⟨_, rfl⟩
          rw [hn]
          go_wp2_with fail
          refine (spot_q sp q HQ.out y0.1 y0.2 _).mono ?_
          rintro e2 w4 ⟨rfl, f2⟩
          have T7 := T6.quiet f2
          clear c0 c1 c2 T6 f2
          go_wp2_with fail
          refine (T7.swap.stood _ _ _ _ _ hwd hwl (by rw [hn]) (by rw [hn]) (by rw [hn])).mono ?_
          rintro e2 w5 ⟨rfl, T8⟩
          clear T7
          go_wp2_with fail
          refine (T8.ask_bad 1 0 (-1) HB1.out).mono ?_
          rintro e2 w6 ⟨rfl, T9⟩
          clear T8
          go_wp2_with fail
          refine (T9.did_bad (-1) 0 (t' + 50) true HB2.out).mono ?_
          rintro e2 w7 ⟨rfl, T10⟩
          clear T9
          go_wp2_with fail
          go_roundg (60 - (k + 1))
          case measure => omega
          case rel => exact ⟨k + 1, t', s', rfl, rfl, by go_num, by omega, by omega, by omega, by omega, H90.out, T10.swap⟩
    · have hW := HW.out
      go_wp2_with fail
      all_goals
        first
        | omega
        | (refine (works_any _).mono ?_
           rintro e w5 ⟨rfl, hB5⟩
           go_wp2
           go_ret
           exact ⟨rfl, (hW.trans (T.frame.to_below hW.size (fun i hi hp => Nat.not_le_of_lt hi hp))).trans (hB5.mono (Nat.le_trans hW.size T.frame.size))⟩)
#print axioms ticks_any
end Go.Proofs.Ytckmjglomofooaa
