/-
  The fuse seat: the reference box by what it answers: Did; calls that may not be.
-/
import Derived.Test.YtckmjglomofooaaGh
namespace Go.Proofs.Ytckmjglomofooaa
open Go.RowKit

set_option maxRecDepth 100000 in
set_option maxHeartbeats 2000000 in
theorem rdid_any {w : World} {m : Nat} {v : Value} {most rest now : Int} {L : List Rfz} {st : Int → Int → Int} (h : RBox w m v most rest now L) (hst : ROf L st) (hlen : L.length ≤ 100000) (hr1 : 1 ≤ rest) (hr2 : rest ≤ 1000000) (hn1 : 0 ≤ now) (hn2 : now ≤ 4503599627370496) (d l tick : Int) (well : Bool) (hok : ¬ BadAt d l tick)
    (hsb : 0 ≤ st d l ∧ st d l ≤ 100000000000000000) :
    Calls Try.prog 13 #[.pointer (some ⟨m, 0, none⟩), .agg #[.int .i64 d, .int .i64 l], .bool well, .int .i64 tick] w fun e w' => ∃ t, t = max now tick ∧ e = .returned (.int .i64 0) ∧ RTurn w m v most rest t L (upd st d l (didN (st d l) well t most rest)) w' := by
  obtain ⟨t, ht⟩ : ∃ t, t = max now tick := ⟨_, rfl⟩
  have hb : 0 ≤ tick ∧ tick ≤ 4503599627370496 := by unfold BadAt at hok; omega
  have hm := lt_of_some h.box
  have H := Lib.hid h
  have HST := Lib.hid hst
  have HT := Lib.hid ht
  have HOK := Lib.hid hok
  clear h hst hok
  go_enter Try.func13, Try.ntmps13
  go_wp2_with fail
  have b0 : (w.alloc (.cells #[.int .i64 d, .int .i64 l] 32)).cell? ⟨w.heap.size, 0, none⟩ = some (.int .i64 d) := by simp
  have b1 : (w.alloc (.cells #[.int .i64 d, .int .i64 l] 32)).cell? ⟨w.heap.size, 1, none⟩ = some (.int .i64 l) := by simp
  refine (may_ok d l tick HOK.out _).mono ?_
  rintro e w1 ⟨rfl, f1⟩
  have F1 : Hid (Fr w w1 (fun _ => False)) := Lib.hid (((Fr.refl w (fun _ => False)).alloc _).trans f1 (fun _ _ h => h))
  have s0 := f1.cellq b0 (fun h => h)
  have s1 := f1.cellq b1 (fun h => h)
  have hszw : w.heap.size < w1.heap.size := by have := f1.size; simp at this; omega
  have h1 := H.out.kept F1.out (fun h => h) (fun _ _ h => h)
  have H1 := Lib.hid h1
  obtain ⟨_, _, c2, fz⟩ := h1.cells
  have fz2 := fz 2
  have S0 := Lib.hid s0
  have S1 := Lib.hid s1
  clear b0 b1 f1 h1 fz
  have hx : (w1.setCell ⟨m, 2, none⟩ (.int .i64 t)).cell? ⟨w.heap.size, 0, none⟩ = some (.int .i64 d) ∧ (w1.setCell ⟨m, 2, none⟩ (.int .i64 t)).cell? ⟨w.heap.size, 1, none⟩ = some (.int .i64 l) := by
    refine ⟨?_, ?_⟩
    · rw [World.cell?_setCell_other _ _ _ _ (by simp)]; exact S0.out
    · rw [World.cell?_setCell_other _ _ _ _ (by simp)]; exact S1.out
  have HX := Lib.hid hx
  clear hx ht
  go_upto_region 3 with fail
  go_cut [20] (fun _ wx => w1.setCell ⟨m, 2, none⟩ (.int .i64 t) = wx)
  case first =>
    go_wp2_with fail
    go_meet
    case rel => rw [HT.out]
  case rest =>
    subst hcut
    clear c2 fz2
    obtain ⟨a0, a1⟩ := HX.out
    have h2 := H1.out.setNow t
    have F2 : Hid (Fr w (w1.setCell ⟨m, 2, none⟩ (.int .i64 t)) (fun k => k = m)) := Lib.hid ((F1.out.mono (fun _ _ h => h.elim)).setCell _ _ (fun _ => rfl))
    have H2 := Lib.hid h2
    have HSZ : Hid (w.heap.size < (w1.setCell ⟨m, 2, none⟩ (.int .i64 t)).heap.size) := Lib.hid (by simpa using hszw)
    clear H1 F1 S0 S1 h2
    generalize w1.setCell ⟨m, 2, none⟩ (.int .i64 t) = W2 at *
    obtain ⟨n, hn⟩ : ∃ n, st d l = n := ⟨_, rfl⟩
    have HN := Lib.hid hn
    clear hn
    rw [HN.out] at hsb
    obtain ⟨s, hs⟩ : ∃ s, stS n = s := ⟨_, rfl⟩
    obtain ⟨f, hf⟩ : ∃ f, stF n = f := ⟨_, rfl⟩
    obtain ⟨u, hu⟩ : ∃ u, stU n = u := ⟨_, rfl⟩
    have C := Lib.hid (rat_is H2.out HST.out d l s f u (by rw [HN.out]; exact hs) (by rw [HN.out]; exact hf) (by rw [HN.out]; exact hu))
    have hw := num_ways n
    rw [hs, hf, hu] at hw
    have HWY := Lib.hid hw
    clear hs hf hu hw
    go_wp2_with fail
    refine C.out.mono ?_
    rintro e w3 ⟨rfl, f3⟩
    go_upto_region 6 with fail
    have f4 := (f3.alloc (.cells #[.int .i64 d, .int .i64 l, .int .i64 s, .int .i64 f, .int .i64 u] 77))
    have h4 := H2.out.kept f4 (fun h => h) (fun _ _ h => h)
    have b0 := f4.cellq a0 (fun h => h)
    have b1 := f4.cellq a1 (fun h => h)
    have F4 : Hid (Fr w (w3.alloc (.cells #[.int .i64 d, .int .i64 l, .int .i64 s, .int .i64 f, .int .i64 u] 77)) (fun k => k = m)) := Lib.hid (F2.out.trans (f4.mono (fun _ _ h => h.elim)) (fun _ _ h => h))
    have HH4 := Lib.hid h4
    have x1 : (w3.alloc (.cells #[.int .i64 d, .int .i64 l, .int .i64 s, .int .i64 f, .int .i64 u] 77)).cell? ⟨w3.heap.size, 2, none⟩ = some (.int .i64 s) := by simp
    have x2 : (w3.alloc (.cells #[.int .i64 d, .int .i64 l, .int .i64 s, .int .i64 f, .int .i64 u] 77)).cell? ⟨w3.heap.size, 3, none⟩ = some (.int .i64 f) := by simp
    have hx3 : w3.heap.size < (w3.alloc (.cells #[.int .i64 d, .int .i64 l, .int .i64 s, .int .i64 f, .int .i64 u] 77)).heap.size := by simp
    obtain ⟨d0, d1, d2, _⟩ := h4.cells
    have hw3 : w.heap.size < w3.heap.size := by have := f3.size; have := HSZ.out; omega
    clear f4 h4 f3 s0 s1 a0 a1
    generalize hB : w3.heap.size = B at *
    generalize (w3.alloc (.cells #[.int .i64 d, .int .i64 l, .int .i64 s, .int .i64 f, .int .i64 u] 77)) = W4 at *
    clear hB
    by_cases c1 : s = 1
    · subst c1
      have hn1' : n % 4 = 1 := by have := HWY.out; omega
      have HN1 := Lib.hid hn1'
      clear hn1'
      go_wp2
      go_ret
      refine ⟨t, HT.out, rfl, ?_⟩
      rw [HN.out, didN_blown HN1.out, ← HN.out, upd_same]
      exact RTurn.still HH4.out HST.out F4.out
    · have c1' : (s == 1) = false := by simpa using c1
      have hn1' : ¬ n % 4 = 1 := by have := HWY.out; omega
      have HN1 := Lib.hid hn1'
      clear hn1' c1
      cases well
      · have hdec : (s = 0 ∧ f + 1 < most) ↔ (n % 4 = 0 ∧ n / 4 + 1 < most) := by have := HWY.out; omega
        have HDEC := Lib.hid hdec
        have hf1 : f + 1 ≤ 9223372036854775807 := by have := HWY.out; omega
        have hf0 : 0 ≤ f + 1 := by have := HWY.out; omega
        clear hdec
        go_upto_region 9 with fail
        go_cut [49] (fun t49 wx => t49 = .bool (decide (s = 0 ∧ f + 1 < most)) ∧ Hid (Fr W4 wx (fun _ => False)))
        case first =>
          by_cases c2 : s = 0
          · subst c2
            have hd : decide ((0 : Int) = 0 ∧ f + 1 < most) = decide (f + 1 < most) := by simp
            have HD := Lib.hid hd
            clear hd
            have hwr : IntKind.i64.wrap (f + 1) = f + 1 := IntWalk.i64_in _ (by omega)
            go_quiet (fail)
            go_wp2_with fail
            go_meet
            case rel => exact ⟨by rw [HD.out], Lib.hid ((Fr.refl _ _).drewN _)⟩
          · have hd : decide (s = 0 ∧ f + 1 < most) = false := by simp [c2]
            have HD := Lib.hid hd
            have c2' : (s == 0) = false := by simpa using c2
            clear hd
            go_quiet (fail)
            go_wp2_with fail
            go_meet
            case rel => exact ⟨by rw [HD.out], Lib.hid ((Fr.refl _ _).drewN _)⟩
        case rest =>
          obtain ⟨rfl, f5⟩ := hcut
          have h5 := HH4.out.kept f5.out (fun h => h) (fun _ _ h => h)
          have H5 := Lib.hid h5
          have g0 := f5.out.cellq b0 (fun h => h)
          have g1 := f5.out.cellq b1 (fun h => h)
          have y2 := f5.out.cellq x2 (fun h => h)
          have F5 := Lib.hid (F4.out.trans (f5.out.mono (fun _ _ h => h.elim)) (fun _ _ h => h))
          obtain ⟨_, e1, e2, _⟩ := h5.cells
          clear h5 f5 b0 b1 d0 d1 d2 x1 x2
          by_cases hc : s = 0 ∧ f + 1 < most
          · have hd : decide (s = 0 ∧ f + 1 < most) = true := decide_eq_true hc
            rw [hd]
            have hn4 : n % 4 = 0 ∧ n / 4 + 1 < most := HDEC.out.1 hc
            have hfn : f = n / 4 := by have := HWY.out; omega
            have C9 := rset_is H5.out HST.out hlen d l ((n / 4 + 1) * 4) 0 (f + 1) 0 (by unfold stS; rw [if_pos (by omega)]) (by unfold stF; rw [if_pos (by omega)]; omega) (by unfold stU; rw [if_pos (by omega)])
            have HC9 := Lib.hid C9
            have HN4 := Lib.hid hn4
            clear C9 hd hc hn4 hfn
            go_wp2_with fail
            refine HC9.out.mono ?_
            rintro e w5 ⟨rfl, R5⟩
            go_wp2
            go_ret
            refine ⟨t, HT.out, rfl, ?_⟩
            rw [HN.out, didN_more HN4.out.1 HN4.out.2]
            exact RTurn.later F5.out R5
          · have hd : decide (s = 0 ∧ f + 1 < most) = false := decide_eq_false hc
            rw [hd]
            have HNC : Hid (¬ (n % 4 = 0 ∧ n / 4 + 1 < most)) := Lib.hid (fun h => hc (HDEC.out.2 h))
            clear hd hc y2
            have hsum : t + rest ≤ 9223372036854775807 := by have := HT.out; omega
            have hsum0 : 0 ≤ t + rest := by have := HT.out; omega
            have hwr : IntKind.i64.wrap (t + rest) = t + rest := IntWalk.i64_in _ (by omega)
            have HWR := Lib.hid hwr
            clear hwr
            obtain ⟨n', hn'⟩ : ∃ n', (t + rest) * 4 + 1 = n' := ⟨_, rfl⟩
            have e1' : stS n' = 1 := by unfold stS; rw [if_neg (by omega)]; omega
            have e2' : stF n' = 0 := by unfold stF; rw [if_neg (by omega)]
            have e3' : stU n' = t + rest := by unfold stU; rw [if_neg (by omega)]; omega
            have E := Lib.hid (And.intro e1' (And.intro e2' (And.intro e3' hn')))
            clear e1' e2' e3' hn'
            go_wp2_with fail
            have C9 := rset_is (H5.out.kept ((Fr.refl wc (fun _ => False)).drew) (fun h => h) (fun _ _ h => h)) HST.out hlen d l n' 1 0 (t + rest) E.out.1 E.out.2.1 E.out.2.2.1
            have HC9 := Lib.hid C9
            clear C9
            have hkeep : ∀ w5, RTurn wc.drew m v most rest t L (upd st d l n') w5 → w5.cell? ⟨m, 2, none⟩ = some (.int .i64 t) ∧ w5.cell? ⟨m, 1, none⟩ = some (.int .i64 rest) ∧ w5.cell? ⟨w.heap.size, 0, none⟩ = some (.int .i64 d) ∧ w5.cell? ⟨w.heap.size, 1, none⟩ = some (.int .i64 l) := by
              intro w5 R
              have hf := R.frame
              obtain ⟨v', L', h1, _⟩ := R
              obtain ⟨_, q1, q2, _⟩ := h1.cells
              exact ⟨q2, q1, hf.cellq g0 (by simp; omega), hf.cellq g1 (by simp; omega)⟩
            have HK := Lib.hid hkeep
            clear hkeep
            have hwr := HWR.out
            go_region_held3 (fun wx => wx.cell? ⟨m, 2, none⟩ = some (.int .i64 t) ∧ wx.cell? ⟨m, 1, none⟩ = some (.int .i64 rest) ∧ wx.cell? ⟨w.heap.size, 0, none⟩ = some (.int .i64 d) ∧ wx.cell? ⟨w.heap.size, 1, none⟩ = some (.int .i64 l)) (first | go_keep | exact HK.out _ R5)
              (first
              | (go_at_call 29
                 refine (HC9.out).mono ?_
                 rintro e w5 ⟨rfl, R5⟩))
            clear hwr
            go_wp2
            go_ret
            refine ⟨t, HT.out, rfl, ?_⟩
            rw [HN.out, didN_blows HN1.out HNC.out, E.out.2.2.2]
            exact RTurn.later F5.out.drew R5
      · have C9 := rset_is HH4.out HST.out hlen d l 0 0 0 0 rfl rfl rfl
        have HC9 := Lib.hid C9
        clear C9
        go_wp2_with fail
        refine HC9.out.mono ?_
        rintro e w5 ⟨rfl, R5⟩
        go_wp2
        go_ret
        refine ⟨t, HT.out, rfl, ?_⟩
        rw [HN.out, didN_well HN1.out]
        exact RTurn.later F4.out R5
#print axioms rdid_any

theorem rask_bad {w : World} {m : Nat} (d l tick : Int) (hbad : BadAt d l tick) :
    Calls Try.prog 15 #[.pointer (some ⟨m, 0, none⟩), .agg #[.int .i64 d, .int .i64 l], .int .i64 tick] w fun e w' => e = .returned (.int .i64 9) ∧ Fr w w' (fun _ => False) := by
  have HB := Lib.hid hbad
  clear hbad
  go_enter Try.func15, Try.ntmps15
  go_wp2_with fail
  refine (may_bad d l tick HB.out _).mono ?_
  rintro e w1 ⟨rfl, f1⟩
  go_wp2
  go_ret
  exact ⟨rfl, ((Fr.refl w (fun _ => False)).alloc _).trans f1 (fun _ _ h => h)⟩

theorem rdid_bad {w : World} {m : Nat} (d l tick : Int) (well : Bool) (hbad : BadAt d l tick) :
    Calls Try.prog 13 #[.pointer (some ⟨m, 0, none⟩), .agg #[.int .i64 d, .int .i64 l], .bool well, .int .i64 tick] w fun e w' => e = .returned (.int .i64 9) ∧ Fr w w' (fun _ => False) := by
  have HB := Lib.hid hbad
  clear hbad
  go_enter Try.func13, Try.ntmps13
  go_wp2_with fail
  refine (may_bad d l tick HB.out _).mono ?_
  rintro e w1 ⟨rfl, f1⟩
  go_wp2
  go_ret
  exact ⟨rfl, ((Fr.refl w (fun _ => False)).alloc _).trans f1 (fun _ _ h => h)⟩
end Go.Proofs.Ytckmjglomofooaa
