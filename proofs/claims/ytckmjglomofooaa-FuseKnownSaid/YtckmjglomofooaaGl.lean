/-
  The fuse seat: FusePlays: the walk.
-/
import Derived.Test.YtckmjglomofooaaGk
namespace Go.Proofs.Ytckmjglomofooaa
open Go.RowKit

/-- A slice of calls that came in, six cells each. -/
def DosAt (w : World) (p : Option Addr) (len : Nat) : Prop :=
  0 < len → ∃ b off, p = some ⟨b, off, none⟩ ∧ b < w.heap.size ∧ ∀ j, j < len → ∃ (did well raw : Bool) (x y z : Int), w.cell? ⟨b, off + j * 6, none⟩ = some (.bool did) ∧ w.cell? ⟨b, off + j * 6 + 1, none⟩ = some (.bool well) ∧ w.cell? ⟨b, off + j * 6 + 2, none⟩ = some (.bool raw) ∧
    w.cell? ⟨b, off + j * 6 + 3, none⟩ = some (.int .i64 x) ∧ w.cell? ⟨b, off + j * 6 + 4, none⟩ = some (.int .i64 y) ∧ w.cell? ⟨b, off + j * 6 + 5, none⟩ = some (.int .i64 z) ∧
    (-9223372036854775808 ≤ x ∧ x ≤ 9223372036854775807) ∧ (-9223372036854775808 ≤ y ∧ y ≤ 9223372036854775807) ∧ -9223372036854775808 ≤ z ∧ z ≤ 9223372036854775807

theorem wf_of {x : Int} (h : -9223372036854775808 ≤ x ∧ x ≤ 9223372036854775807) : (Lit.int .i64 x).wf = true := WalkArith.wf_i64 (by omega)

section
variable {wS w : World} {P : Nat → Prop} {b m : Nat} {most rest nb nm : Int} {sb sm : Int → Int → Int} {N : Nat}

/-- From here on with a block that neither box has. -/
theorem Pair.enter (h : Pair wS P w b m most rest nb sb nm sm N) (o : Obj) : ∃ P' : Nat → Prop, Pair (w.alloc o) P' (w.alloc o) b m most rest nb sb nm sm N ∧ ¬ P' w.heap.size ∧
    ∀ w2 nb' sb' nm' sm' N', Pair (w.alloc o) P' w2 b m most rest nb' sb' nm' sm' N' → Pair wS P w2 b m most rest nb' sb' nm' sm' N' := by
  obtain ⟨FA, FM, h1, h2, h3, h4, h5, h6, h7⟩ := h
  have f : Fr w (w.alloc o) (fun _ => False) := (Fr.refl w _).alloc o
  have hP : ∀ k, (FA k ∨ FM k ∨ (w.alloc o).heap.size ≤ k) → P k := by
    rintro k (hk | hk | hk)
    · exact h4 k hk
    · exact h5 k hk
    · exact h6 k (Nat.le_trans h7.size (Nat.le_trans f.size hk))
  refine ⟨fun k => FA k ∨ FM k ∨ (w.alloc o).heap.size ≤ k, ⟨FA, FM, h1.kept f (fun _ _ h => h), h2.kept f (fun _ _ h => h), h3, fun k hk => .inl hk, fun k hk => .inr (.inl hk), fun k hk => .inr (.inr hk), Fr.refl _ _⟩, ?_, ?_⟩
  · rintro (hk | hk | hk)
    · exact Nat.lt_irrefl _ (h1.lt _ hk)
    · exact Nat.lt_irrefl _ (h2.lt _ hk)
    · simp at hk; omega
  · rintro w2 nb' sb' nm' sm' N' ⟨FA2, FM2, k1, k2, k3, k4, k5, k6, k7⟩
    exact ⟨FA2, FM2, k1, k2, k3, fun k hk => hP k (k4 k hk), fun k hk => hP k (k5 k hk), h6, (h7.trans f (fun _ _ h => h.elim)).trans k7 (fun k _ hk => hP k hk)⟩

theorem Pair.start {w0 w1 : World} {P : Nat → Prop} {bm : Nat} (h1 : FBox w0 b most rest 0 bm []) (h2 : RBox w1 m (.slice none 0 0) most rest 0 []) (hB : Below w0.heap.size w0 w1) (hm : w0.heap.size ≤ m)
    (o : 1 ≤ most ∧ most ≤ 1000 ∧ 1 ≤ rest ∧ rest ≤ 1000000) (p1 : P b) (p2 : P bm) (p3 : P m) (p5 : ∀ k, w1.heap.size ≤ k → P k) : Pair w1 P w1 b m most rest 0 (fun _ _ => 0) 0 (fun _ _ => 0) 0 := by
  have g1 := h1.fresh0.kept (Fr.below hB (Nat.le_refl _) (fun _ => False)) (fun _ _ h => h)
  have l1 := h1.fresh0.lt
  refine ⟨_, fun k => k = m, g1, ⟨⟨o.1, o.2.1, o.2.2.1, o.2.2.2, by decide, by decide, fun _ _ => ⟨by simp, by simp⟩⟩, _, [], h2, ⟨List.Pairwise.nil, fun d l n => ?_⟩, Nat.le_refl _, rfl, fun g hg => by simp [Value.ownBlock] at hg, fun k hk => by subst hk; exact lt_of_some h2.box⟩, fun k hk hk2 => ?_, fun k hk => ?_, fun k hk => ?_, p5, Fr.refl _ _⟩
  · simp
    exact fun h => h.symm
  · have := l1 k hk
    omega
  · rcases hk with rfl | rfl
    · exact p1
    · exact p2
  · subst hk; exact p3

theorem Pair.bounds (h : Pair wS P w b m most rest nb sb nm sm N) : 0 ≤ nm ∧ nm ≤ 4503599627370496 := by
  obtain ⟨FA, FM, h1, ⟨⟨_, _, _, _, g5, g6, _⟩, _⟩, _⟩ := h
  exact ⟨g5, g6⟩
end

set_option maxRecDepth 100000 in
set_option maxHeartbeats 6000000 in
theorem plays_any (most rest : Int) (p : Option Addr) (len cap : Nat) (w : World) (hD : DosAt w p len) (hlen : len ≤ 9223372036854775807) :
    Calls Try.prog 3 #[.int .i64 most, .int .i64 rest, .slice p len cap] w fun e w' => e = .returned (.bool true) ∧ Below w.heap.size w w' := by
  have HD := Lib.hid hD
  clear hD
  by_cases hok : 1 ≤ most ∧ most ≤ 1000 ∧ 1 ≤ rest ∧ rest ≤ 1000000
  · have HOK := Lib.hid hok
    obtain ⟨k1, k2, k3, k4⟩ := hok
    go_enter Try.func3, Try.ntmps3
    go_wp2_with fail
    refine (new_ok most rest k1 k2 k3 k4 _).mono ?_
    rintro e w1 ⟨b, bm, rfl, h1, hB1, hb1, hb2⟩
    go_wp2_with fail
    refine (rnew_ok most rest k1 k2 k3 k4 _).mono ?_
    rintro e wS ⟨m, rfl, h2, hB2, hm1⟩
    have T0 : Pair wS (fun k => w.heap.size ≤ k) wS b m most rest 0 (fun _ _ => 0) 0 (fun _ _ => 0) 0 := Pair.start h1 h2 hB2 hm1 HOK.out hb1 hb2 (Nat.le_trans hB1.size hm1) (fun k hk => Nat.le_trans (Nat.le_trans hB1.size hB2.size) hk)
    have hW : Below w.heap.size w wS := hB1.trans (hB2.mono hB1.size)
    have HW := Lib.hid hW
    clear hW h1 h2 hB1 hB2 hb1 hb2 hm1
    go_wp2_with fail
    go_loopg [11] 100 (fun g iv wr => ∃ (k : Nat) (n : Int) (st : Int → Int → Int), g = 100 - k ∧ iv = .int .i64 k ∧ k ≤ len ∧ k ≤ 100 ∧ Pair wS (fun k => w.heap.size ≤ k) wr b m most rest n st n st k)
    case atStart => exact ⟨0, 0, _, rfl, rfl, by omega, by omega, T0⟩
    case round =>
      obtain ⟨k, n, st, hg, rfl, k0, k1', T⟩ := hrel
      clear T0
      by_cases hl : k < len ∧ k < 100
      · obtain ⟨hl, hl100⟩ := hl
        obtain ⟨bb, off, rfl, hbb, hc⟩ := HD.out (by omega)
        obtain ⟨did, well, raw, x, y, z, x0, x1, x2, x3, x4, x5, y0, y1, y2⟩ := hc k hl
        have c0 := T.old HW.out hbb (Nat.not_le_of_lt hbb) x0
        have c1 := T.old HW.out hbb (Nat.not_le_of_lt hbb) x1
        have c2 := T.old HW.out hbb (Nat.not_le_of_lt hbb) x2
        have c3 := T.old HW.out hbb (Nat.not_le_of_lt hbb) x3
        have c4 := T.old HW.out hbb (Nat.not_le_of_lt hbb) x4
        have c5 := T.old HW.out hbb (Nat.not_le_of_lt hbb) x5
        clear hc x0 x1 x2 x3 x4 x5
        have hk1 : ((k : Int) < (len : Int)) := by omega
        have hk2 : ((k : Int) < 100) := by omega
        obtain ⟨P', Q1, hP', back⟩ := T.enter (.cells #[.bool did, .bool well, .bool raw, .int .i64 x, .int .i64 y, .int .i64 z] 34)
        have HBACK := Lib.hid back
        have HP' := Lib.hid hP'
        clear back hP'
        go_upto_if 58 with fail
        go_cut [13] (fun tv wx => ∃ t : Int, tv = .int .i64 t ∧ Hid (Fr (wr.alloc (.cells #[.bool did, .bool well, .bool raw, .int .i64 x, .int .i64 y, .int .i64 z] 34)) wx (fun _ => False)))
        case first =>
          cases raw
          · have hn := T.bounds
            have hz0 : 0 ≤ z % 12 := Int.emod_nonneg _ (by decide)
            have hz1 : z % 12 < 12 := Int.emod_lt_of_pos _ (by decide)
            have hwr : IntKind.i64.wrap (min n 1125899906842624 + z % 12) = min n 1125899906842624 + z % 12 := IntWalk.i64_in _ (by omega)
            have HWR := Lib.hid hwr
            have cn := T.now
            have hm := World.block_lt_of_cell? _ _ cn
            have cn2 : (wr.alloc (.cells #[.bool did, .bool well, .bool false, .int .i64 x, .int .i64 y, .int .i64 z] 34)).cell? ⟨m, 2, none⟩ = some (.int .i64 n) := ((Fr.refl wr (fun _ => False)).alloc _).cellq cn (fun h => h)
            have cz : (wr.alloc (.cells #[.bool did, .bool well, .bool false, .int .i64 x, .int .i64 y, .int .i64 z] 34)).cell? ⟨wr.heap.size, 5, none⟩ = some (.int .i64 z) := by simp
            have BR := Lib.hid (bring_any z 12 y2.1 y2.2 (by omega) (by omega) (wr.alloc (.cells #[.bool did, .bool well, .bool false, .int .i64 x, .int .i64 y, .int .i64 z] 34)).drew)
            clear hwr hn
            go_wp2_with fail
            generalize z % 12 = zq at *
            have hwr := HWR.out
            go_region_held3 (fun wx => wx.cell? ⟨m, 2, none⟩ = some (.int .i64 n) ∧ wx.cell? ⟨wr.heap.size, 5, none⟩ = some (.int .i64 z)) (go_keep)
              (first
              | (go_at_call 11
                 refine (BR.out).mono ?_
                 rintro e w5 ⟨rfl, rfl⟩))
            clear hwr
            all_goals
              go_wp2_with fail
              go_meet
              exact ⟨_, rfl, Lib.hid ((Fr.refl _ _).drew)⟩
          · go_wp2_with fail
            go_meet
            case rel => exact ⟨z, rfl, Lib.hid (Fr.refl _ _)⟩
        case rest =>
          obtain ⟨t, rfl, f1⟩ := hcut
          have Q2 := Q1.quiet f1.out
          have hcell : ∀ (w2 : World) (nb : Int) (sb : Int → Int → Int) (nm : Int) (sm : Int → Int → Int) (N : Nat), Pair (wr.alloc (.cells #[.bool did, .bool well, .bool raw, .int .i64 x, .int .i64 y, .int .i64 z] 34)) P' w2 b m most rest nb sb nm sm N →
              w2.cell? ⟨wr.heap.size, 0, none⟩ = some (.bool did) ∧ w2.cell? ⟨wr.heap.size, 1, none⟩ = some (.bool well) ∧ w2.cell? ⟨wr.heap.size, 3, none⟩ = some (.int .i64 x) ∧ w2.cell? ⟨wr.heap.size, 4, none⟩ = some (.int .i64 y) := by
            intro w2 nb sb nm sm N Q
            exact ⟨Q.cell (by simp) HP'.out, Q.cell (by simp) HP'.out, Q.cell (by simp) HP'.out, Q.cell (by simp) HP'.out⟩
          have HCE := Lib.hid hcell
          clear hcell f1 c0 c1 c2 c3 c4 c5 Q1
          generalize wr.alloc (.cells #[.bool did, .bool well, .bool raw, .int .i64 x, .int .i64 y, .int .i64 z] 34) = W1 at *
          obtain ⟨b0, b1, b3, b4⟩ := HCE.out _ _ _ _ _ _ Q2
          go_upto_if 69 with fail
          go_cut [84] (fun _ wx => ∃ (n' : Int) (st' : Int → Int → Int), Pair W1 P' wx b m most rest n' st' n' st' (k + 1))
          case first =>
            have Qd := Lib.hid (Q2.quiet (w' := wc.drew) ((Fr.refl wc (fun _ => False)).drew))
            cases did
            · obtain ⟨n', r, s', hA⟩ := AskTo.ex rest n st x y t
              have HA := Lib.hid hA
              clear hA b0 b1
              have K1 := Lib.hid (Qd.out.ask_to HA.out)
              have K2 := Lib.hid (fun (wx : World) (Qx : Pair W1 P' wx b m most rest n' s' n st k) => Qx.rask_to (by omega) HA.out)
              go_wp2_with fail
              go_region_held3 (fun wx => wx.cell? ⟨wr.heap.size, 3, none⟩ = some (.int .i64 x) ∧ wx.cell? ⟨wr.heap.size, 4, none⟩ = some (.int .i64 y))
                (first | exact (HCE.out _ _ _ _ _ _ Qd.out).2.2 | exact (HCE.out _ _ _ _ _ _ R1).2.2 | exact (HCE.out _ _ _ _ _ _ R2).2.2)
                (first
                | (go_at_call 14
                   refine (K1.out).mono ?_
                   rintro e w2 ⟨rfl, R1⟩)
                | (go_at_call 15
                   refine (K2.out _ R1).mono ?_
                   rintro e w2 ⟨rfl, R2⟩))
              all_goals
                go_wp2_with fail
                go_meet
                exact ⟨n', s', R2⟩
            · obtain ⟨n', r, s', hA⟩ := DidTo.ex most rest n st x y t well
              have HA := Lib.hid hA
              clear hA b0
              have K1 := Lib.hid (Qd.out.did_to HA.out)
              have K2 := Lib.hid (fun (wx : World) (Qx : Pair W1 P' wx b m most rest n' s' n st k) => Qx.rdid_to (by omega) HA.out)
              go_wp2_with fail
              go_region_held3 (fun wx => wx.cell? ⟨wr.heap.size, 1, none⟩ = some (.bool well) ∧ wx.cell? ⟨wr.heap.size, 3, none⟩ = some (.int .i64 x) ∧ wx.cell? ⟨wr.heap.size, 4, none⟩ = some (.int .i64 y))
                (first | exact (HCE.out _ _ _ _ _ _ Qd.out).2 | exact (HCE.out _ _ _ _ _ _ R1).2 | exact (HCE.out _ _ _ _ _ _ R2).2)
                (first
                | (go_at_call 12
                   refine (K1.out).mono ?_
                   rintro e w2 ⟨rfl, R1⟩)
                | (go_at_call 13
                   refine (K2.out _ R1).mono ?_
                   rintro e w2 ⟨rfl, R2⟩))
              all_goals
                go_wp2_with fail
                go_meet
                exact ⟨n', s', R2⟩
          case rest =>
            obtain ⟨n', st', Q3⟩ := hcut
            clear b0 b1 b3 b4 Q2
            obtain ⟨b0, b1, b3, b4⟩ := HCE.out _ _ _ _ _ _ Q3
            have C1 := Lib.hid (same_any Q3 (by omega) x y (wf_of y0) (wf_of y1))
            have C2 := Lib.hid (fun (W : World) (Q : Pair W1 P' W b m most rest n' st' n' st' (k + 1)) => same_any Q (by omega) 1 0 wf1 wf0)
            go_wp2_with fail
            refine (C1.out).mono ?_
            rintro e w2 ⟨rfl, f2⟩
            have Q4 := Q3.quiet f2
            clear b0 b1 b3 b4 f2 Q3 C1
            go_wp2_with fail
            refine (C2.out _ Q4).mono ?_
            rintro e w3 ⟨rfl, f3⟩
            have Q5 := HBACK.out _ _ _ _ _ _ (Q4.quiet f3)
            clear f3 Q4 C2
            go_wp2_with fail
            go_roundg (100 - (k + 1))
            case measure => omega
            case rel => exact ⟨k + 1, n', st', rfl, by go_num, by omega, by omega, Q5⟩
      · have hW := HW.out
        go_wp2_with fail
        all_goals
          first
          | omega
          | (refine (works_any _).mono ?_
             rintro e w5 ⟨rfl, hB5⟩
             go_wp2
             go_ret
             exact ⟨rfl, (hW.trans (T.frame.to_below hW.size (fun i hi hp => Nat.not_le_of_lt hi hp))).trans (hB5.mono (Nat.le_trans hW.size T.frame.size))⟩)
  · have hb : most < 1 ∨ 1000 < most ∨ rest < 1 ∨ 1000000 < rest := by omega
    have HB := Lib.hid hb
    clear hb hok
    go_enter Try.func3, Try.ntmps3
    go_wp2_with fail
    refine (new_bad most rest HB.out _).mono ?_
    rintro e w1 ⟨rfl, rfl⟩
    go_wp2_with fail
    refine (rnew_bad most rest HB.out _).mono ?_
    rintro e w1 ⟨rfl, rfl⟩
    go_wp2_with fail
    go_loop [11] (fun iv => iv = .int .i64 0) (fun _ => 0)
    case atStart => rfl
    case round =>
      obtain rfl := hrel
      by_cases hl : 0 < len
      · have hl2 : (0 : Int) < (len : Int) := by omega
        go_wp2_with fail
        refine (works_any _).mono ?_
        rintro e w5 ⟨rfl, hB5⟩
        go_wp2
        go_ret
        exact ⟨rfl, hB5⟩
      · have hl2 : ¬ (0 : Int) < (len : Int) := by omega
        go_wp2_with fail
        refine (works_any _).mono ?_
        rintro e w5 ⟨rfl, hB5⟩
        go_wp2
        go_ret
        exact ⟨rfl, hB5⟩
#print axioms plays_any
end Go.Proofs.Ytckmjglomofooaa
