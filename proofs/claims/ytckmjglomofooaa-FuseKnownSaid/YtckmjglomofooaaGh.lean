/-
  The fuse seat: the reference box by what it answers: Ask, Did.
-/
import Derived.Test.YtckmjglomofooaaGg
import Derived.IntWalk
namespace Go.Proofs.Ytckmjglomofooaa
open Go.RowKit

theorem insR_length (x : Rfz) : ∀ L : List Rfz, (insR L x).length ≤ L.length + 1
  | [] => by
    unfold insR
    split <;> simp
  | y :: L => by
    have ih := insR_length x L
    unfold insR
    split
    · simpa using ih
    · split <;> split <;> simp <;> omega

theorem RBox.setNow {w : World} {m : Nat} {v : Value} {most rest now : Int} {L : List Rfz} (h : RBox w m v most rest now L) (t : Int) : RBox (w.setCell ⟨m, 2, none⟩ (.int .i64 t)) m v most rest t L := by
  refine ⟨?_, ⟨h.row.1, ?_⟩, h.apart⟩
  · have hb := h.box
    simp [World.setCell, Array.getElem?_modify, hb]
  · rcases h.row.2 with h0 | ⟨g, cap, cur, rfl, h1, hg, h2⟩
    · exact .inl h0
    · refine .inr ⟨g, cap, cur, rfl, h1, ?_, h2⟩
      rw [Below.heap_setCell _ _ _ _ (fun e => h.apart (by subst e; rfl))]
      exact hg

/-- What a call leaves: the tick, the list, the slice; what has turned. -/
def RTurn (w : World) (m : Nat) (v : Value) (most rest t : Int) (L : List Rfz) (st' : Int → Int → Int) (w' : World) : Prop :=
  ∃ v' L', RBox w' m v' most rest t L' ∧ ROf L' st' ∧ L'.length ≤ L.length + 1 ∧ Fr w w' (fun k => k = m) ∧ (v' = v ∨ ∀ g, v'.ownBlock = some g → w.heap.size ≤ g)

theorem RTurn.later {w w1 w' : World} {m : Nat} {v : Value} {most rest t : Int} {L : List Rfz} {st' : Int → Int → Int} (f1 : Fr w w1 (fun k => k = m)) (h : RTurn w1 m v most rest t L st' w') : RTurn w m v most rest t L st' w' := by
  obtain ⟨v', L', h1, h2, h3, h4, h5⟩ := h
  refine ⟨v', L', h1, h2, h3, f1.trans h4 (fun _ _ h => h), ?_⟩
  rcases h5 with h5 | h5
  · exact .inl h5
  · exact .inr (fun g hg => Nat.le_trans f1.size (h5 g hg))

theorem RTurn.still {w w' : World} {m : Nat} {v : Value} {most rest t : Int} {L : List Rfz} {st : Int → Int → Int} (h : RBox w' m v most rest t L) (hst : ROf L st) (hf : Fr w w' (fun k => k = m)) : RTurn w m v most rest t L st w' :=
  ⟨v, L, h, hst, by omega, hf, .inl rfl⟩

theorem RTurn.set {w w' : World} {m : Nat} {v v' : Value} {most rest t : Int} {L : List Rfz} {st : Int → Int → Int} (hst : ROf L st) (d l n : Int) (h : RBox w' m v' most rest t (insR L ⟨d, l, n⟩)) (hf : Fr w w' (fun k => k = m)) (hv : ∀ g, v'.ownBlock = some g → w.heap.size ≤ g) : RTurn w m v most rest t L (upd st d l n) w' :=
  ⟨v', _, h, hst.ins d l n, insR_length _ _, hf, .inr hv⟩

theorem rset_is {w : World} {m : Nat} {v : Value} {most rest now : Int} {L : List Rfz} {st : Int → Int → Int} (h : RBox w m v most rest now L) (hst : ROf L st) (hlen : L.length ≤ 100000) (d l n s f u : Int) (hs : stS n = s) (hf : stF n = f) (hu : stU n = u) :
    Calls Try.prog 29 #[.pointer (some ⟨m, 0, none⟩), .agg #[.int .i64 d, .int .i64 l, .int .i64 s, .int .i64 f, .int .i64 u]] w fun e w' => e = .returned (.tuple #[]) ∧ RTurn w m v most rest now L (upd st d l n) w' := by
  subst hs; subst hf; subst hu
  refine (rset_any h hlen ⟨d, l, n⟩).mono ?_
  rintro e w' ⟨he, v', h1, h2, h3⟩
  exact ⟨he, RTurn.set hst d l n h1 h2 h3⟩

theorem rat_is {w : World} {m : Nat} {v : Value} {most rest now : Int} {L : List Rfz} (h : RBox w m v most rest now L) {st : Int → Int → Int} (hst : ROf L st) (d l s f u : Int) (hs : stS (st d l) = s) (hf : stF (st d l) = f) (hu : stU (st d l) = u) :
    Calls Try.prog 28 #[.pointer (some ⟨m, 0, none⟩), .agg #[.int .i64 d, .int .i64 l]] w fun e w' => e = .returned (.agg #[.int .i64 d, .int .i64 l, .int .i64 s, .int .i64 f, .int .i64 u]) ∧ Fr w w' (fun _ => False) := by
  subst hs; subst hf; subst hu
  exact rat_any h hst d l

/-- The three ways a number stands. -/
theorem num_ways (n : Int) : (n % 4 = 0 ∧ stS n = 0 ∧ stF n = n / 4 ∧ stU n = 0) ∨ (n % 4 ≠ 0 ∧ stS n = n % 4 ∧ stF n = 0 ∧ stU n = n / 4) := by
  unfold stS stF stU
  by_cases h : n % 4 = 0
  · left; simp [h]
  · right; simp [h]

theorem RTurn.frame {w w' : World} {m : Nat} {v : Value} {most rest t : Int} {L : List Rfz} {st' : Int → Int → Int} (h : RTurn w m v most rest t L st' w') : Fr w w' (fun k => k = m) := by
  obtain ⟨v', L', h1, h2, h3, h4, h5⟩ := h
  exact h4

theorem RBox.cells {w : World} {m : Nat} {v : Value} {most rest now : Int} {L : List Rfz} (h : RBox w m v most rest now L) :
    w.cell? ⟨m, 0, none⟩ = some (.int .i64 most) ∧ w.cell? ⟨m, 1, none⟩ = some (.int .i64 rest) ∧ w.cell? ⟨m, 2, none⟩ = some (.int .i64 now) ∧ ∀ i, w.frozen? ⟨m, i, none⟩ = false := by
  refine ⟨by rw [cell_of_block h.box]; rfl, by rw [cell_of_block h.box]; rfl, by rw [cell_of_block h.box]; rfl, fun i => by simp [World.frozen?, h.box]⟩

set_option maxRecDepth 100000 in
set_option maxHeartbeats 2000000 in
theorem rask_any {w : World} {m : Nat} {v : Value} {most rest now : Int} {L : List Rfz} {st : Int → Int → Int} (h : RBox w m v most rest now L) (hst : ROf L st) (hlen : L.length ≤ 100000) (hr1 : 1 ≤ rest) (hr2 : rest ≤ 1000000) (hn1 : 0 ≤ now) (hn2 : now ≤ 4503599627370496) (d l tick : Int) (hok : ¬ BadAt d l tick) :
    Calls Try.prog 15 #[.pointer (some ⟨m, 0, none⟩), .agg #[.int .i64 d, .int .i64 l], .int .i64 tick] w fun e w' => ∃ t, t = max now tick ∧ e = .returned (.int .i64 (askR (st d l) t)) ∧ RTurn w m v most rest t L (upd st d l (askN (st d l) t rest)) w' := by
  obtain ⟨t, ht⟩ : ∃ t, t = max now tick := ⟨_, rfl⟩
  have hb : 0 ≤ tick ∧ tick ≤ 4503599627370496 := by unfold BadAt at hok; omega
  have hm := lt_of_some h.box
  have H := Lib.hid h
  have HST := Lib.hid hst
  have HT := Lib.hid ht
  have HOK := Lib.hid hok
  clear h hst hok
  go_enter Try.func15, Try.ntmps15
  go_wp2_with fail
  have b0 : (w.alloc (.cells #[.int .i64 d, .int .i64 l] 32)).cell? ⟨w.heap.size, 0, none⟩ = some (.int .i64 d) := by simp
  have b1 : (w.alloc (.cells #[.int .i64 d, .int .i64 l] 32)).cell? ⟨w.heap.size, 1, none⟩ = some (.int .i64 l) := by simp
  refine (may_ok d l tick HOK.out _).mono ?_
  rintro e w1 ⟨rfl, f1⟩
  have F1 : Hid (Fr w w1 (fun _ => False)) := Lib.hid (((Fr.refl w (fun _ => False)).alloc _).trans f1 (fun _ _ h => h))
  have s0 := f1.cellq b0 (fun h => h)
  have s1 := f1.cellq b1 (fun h => h)
  have hszw : w.heap.size < w1.heap.size := by have := f1.size; simp at this; omega
  have h1 := H.out.kept F1.out (fun h => h) (fun _ _ h => h)
  have H1 := Lib.hid h1
  obtain ⟨_, _, c2, fz⟩ := h1.cells
  have fz2 := fz 2
  have S0 := Lib.hid s0
  have S1 := Lib.hid s1
  clear b0 b1 f1 h1 fz
  have hx : (w1.setCell ⟨m, 2, none⟩ (.int .i64 t)).cell? ⟨w.heap.size, 0, none⟩ = some (.int .i64 d) ∧ (w1.setCell ⟨m, 2, none⟩ (.int .i64 t)).cell? ⟨w.heap.size, 1, none⟩ = some (.int .i64 l) := by
    refine ⟨?_, ?_⟩
    · rw [World.cell?_setCell_other _ _ _ _ (by simp)]; exact S0.out
    · rw [World.cell?_setCell_other _ _ _ _ (by simp)]; exact S1.out
  have HX := Lib.hid hx
  clear hx ht
  go_upto_region 3 with fail
  go_cut [18] (fun _ wx => w1.setCell ⟨m, 2, none⟩ (.int .i64 t) = wx)
  case first =>
    go_wp2_with fail
    go_meet
    case rel => rw [HT.out]
  case rest =>
    subst hcut
    clear c2 fz2
    obtain ⟨a0, a1⟩ := HX.out
    have h2 := H1.out.setNow t
    have F2 : Hid (Fr w (w1.setCell ⟨m, 2, none⟩ (.int .i64 t)) (fun k => k = m)) := Lib.hid ((F1.out.mono (fun _ _ h => h.elim)).setCell _ _ (fun _ => rfl))
    have H2 := Lib.hid h2
    have HSZ : Hid (w.heap.size < (w1.setCell ⟨m, 2, none⟩ (.int .i64 t)).heap.size) := Lib.hid (by simpa using hszw)
    clear H1 F1 S0 S1 h2
    generalize w1.setCell ⟨m, 2, none⟩ (.int .i64 t) = W2 at *
    obtain ⟨n, hn⟩ : ∃ n, st d l = n := ⟨_, rfl⟩
    have HN := Lib.hid hn
    clear hn
    rcases num_ways n with ⟨h4, k1, k2, k3⟩ | ⟨h4, k1, k2, k3⟩
    · have C := Lib.hid (rat_is H2.out HST.out d l 0 (n / 4) 0 (by rw [HN.out]; exact k1) (by rw [HN.out]; exact k2) (by rw [HN.out]; exact k3))
      have H4 := Lib.hid h4
      clear k1 k2 k3 h4
      go_wp2_with fail
      refine C.out.mono ?_
      rintro e w3 ⟨rfl, f3⟩
      go_wp2_with fail
      go_ret
      refine ⟨t, HT.out, ret_int (by rw [HN.out, askR_whole H4.out]), ?_⟩
      rw [HN.out, askN_whole H4.out, ← HN.out, upd_same]
      have f4 : Fr W2 w3 (fun k => k = m) := f3.mono (fun _ _ h => h.elim)
      have f4 := (f3.alloc (.cells #[.int .i64 d, .int .i64 l, .int .i64 0, .int .i64 (n / 4), .int .i64 0] 77))
      rw [HN.out]
      exact RTurn.still (H2.out.kept f4 (fun h => h) (fun _ _ h => h)) HST.out (F2.out.trans (f4.mono (fun _ _ h => h.elim)) (fun _ _ h => h))
    · have C := Lib.hid (rat_is H2.out HST.out d l (n % 4) 0 (n / 4) (by rw [HN.out]; exact k1) (by rw [HN.out]; exact k2) (by rw [HN.out]; exact k3))
      have H4 := Lib.hid h4
      have hz : (n % 4 == 0) = false := by simpa using h4
      clear k1 k2 k3 h4
      generalize hq4 : n % 4 = n4 at *
      generalize hq : n / 4 = u at *
      have HQ := Lib.hid hq
      have HNE : Hid (¬ n % 4 = 0) := Lib.hid (by rw [hq4]; exact H4.out)
      clear hq hq4
      go_wp2_with fail
      refine C.out.mono ?_
      rintro e w3 ⟨rfl, f3⟩
      have f4 := (f3.alloc (.cells #[.int .i64 d, .int .i64 l, .int .i64 n4, .int .i64 0, .int .i64 u] 77))
      have h4 := H2.out.kept f4 (fun h => h) (fun _ _ h => h)
      have b0 := f4.cellq a0 (fun h => h)
      have b1 := f4.cellq a1 (fun h => h)
      have h3 := H2.out.kept f3 (fun h => h) (fun _ _ h => h)
      obtain ⟨_, c1, c2, _⟩ := h3.cells
      obtain ⟨_, d1, d2, _⟩ := h4.cells
      have F4 : Hid (Fr w (w3.alloc (.cells #[.int .i64 d, .int .i64 l, .int .i64 n4, .int .i64 0, .int .i64 u] 77)) (fun k => k = m)) := Lib.hid (F2.out.trans (f4.mono (fun _ _ h => h.elim)) (fun _ _ h => h))
      have HH4 := Lib.hid h4
      clear a0 a1 f4 h4 h3 f3 s0 s1
      go_upto_region 7 with fail
      go_cut [33] (fun t33 wx => t33 = .bool (decide (t < u)) ∧ Hid (Fr (w3.alloc (.cells #[.int .i64 d, .int .i64 l, .int .i64 n4, .int .i64 0, .int .i64 u] 77)) wx (fun _ => False)))
      case first =>
        go_quiet (fail)
        go_wp2_with fail
        go_meet
        case rel => exact ⟨rfl, Lib.hid ((Fr.refl _ _).drewN _)⟩
      case rest =>
        obtain ⟨rfl, f5⟩ := hcut
        have h5 := HH4.out.kept f5.out (fun h => h) (fun _ _ h => h)
        have H5 := Lib.hid h5
        have g0 := f5.out.cellq b0 (fun h => h)
        have g1 := f5.out.cellq b1 (fun h => h)
        have F5 := Lib.hid (F4.out.trans (f5.out.mono (fun _ _ h => h.elim)) (fun _ _ h => h))
        obtain ⟨_, e1, e2, _⟩ := h5.cells
        clear h5 f5 b0 b1 c1 c2 d1 d2
        by_cases hu : t < u
        · have hd : decide (t < u) = true := decide_eq_true hu
          rw [hd]
          clear hd
          go_wp2
          go_ret
          refine ⟨t, HT.out, ret_int (by rw [HN.out, askR_wait HNE.out (by rw [HQ.out]; exact hu)]), ?_⟩
          rw [HN.out, askN_wait HNE.out (by rw [HQ.out]; exact hu), ← HN.out, upd_same]
          exact RTurn.still H5.out HST.out F5.out
        · have hd : decide (t < u) = false := decide_eq_false hu
          rw [hd]
          clear hd
          have hsum : t + rest ≤ 9223372036854775807 := by have := HT.out; omega
          have hsum0 : 0 ≤ t + rest := by have := HT.out; omega
          have hwr : IntKind.i64.wrap (t + rest) = t + rest := IntWalk.i64_in _ (by omega)
          have HWR := Lib.hid hwr
          clear hwr
          obtain ⟨n', hn'⟩ : ∃ n', (t + rest) * 4 + 2 = n' := ⟨_, rfl⟩
          have e1' : stS n' = 2 := by unfold stS; rw [if_neg (by omega)]; omega
          have e2' : stF n' = 0 := by unfold stF; rw [if_neg (by omega)]
          have e3' : stU n' = t + rest := by unfold stU; rw [if_neg (by omega)]; omega
          have E := Lib.hid (And.intro e1' (And.intro e2' (And.intro e3' hn')))
          clear e1' e2' e3' hn'
          go_wp2_with fail
          have C9 := rset_is (H5.out.kept ((Fr.refl wc (fun _ => False)).drew) (fun h => h) (fun _ _ h => h)) HST.out hlen d l n' 2 0 (t + rest) E.out.1 E.out.2.1 E.out.2.2.1
          have HC9 := Lib.hid C9
          clear C9
          have hkeep : ∀ w5, RTurn wc.drew m v most rest t L (upd st d l n') w5 → w5.cell? ⟨m, 2, none⟩ = some (.int .i64 t) ∧ w5.cell? ⟨m, 1, none⟩ = some (.int .i64 rest) ∧ w5.cell? ⟨w.heap.size, 0, none⟩ = some (.int .i64 d) ∧ w5.cell? ⟨w.heap.size, 1, none⟩ = some (.int .i64 l) := by
            intro w5 R
            have hf := R.frame
            obtain ⟨v', L', h1, _⟩ := R
            obtain ⟨_, q1, q2, _⟩ := h1.cells
            exact ⟨q2, q1, hf.cellq g0 (by simp; omega), hf.cellq g1 (by simp; omega)⟩
          have HK := Lib.hid hkeep
          clear hkeep
          have hwr := HWR.out
          go_region_held3 (fun wx => wx.cell? ⟨m, 2, none⟩ = some (.int .i64 t) ∧ wx.cell? ⟨m, 1, none⟩ = some (.int .i64 rest) ∧ wx.cell? ⟨w.heap.size, 0, none⟩ = some (.int .i64 d) ∧ wx.cell? ⟨w.heap.size, 1, none⟩ = some (.int .i64 l)) (first | go_keep | exact HK.out _ R5)
            (first
            | (go_at_call 29
               refine (HC9.out).mono ?_
               rintro e w5 ⟨rfl, R5⟩))
          clear hwr
          go_wp2
          go_ret
          refine ⟨t, HT.out, ret_int (by rw [HN.out, askR_try HNE.out (by rw [HQ.out]; omega)]), ?_⟩
          rw [HN.out, askN_try HNE.out (by rw [HQ.out]; omega), E.out.2.2.2]
          exact RTurn.later F5.out.drew R5
#print axioms rask_any
end Go.Proofs.Ytckmjglomofooaa
