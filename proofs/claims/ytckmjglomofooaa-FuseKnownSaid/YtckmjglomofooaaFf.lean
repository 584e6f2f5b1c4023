/-
  The fuse seat: Ask and Did.
-/
import Derived.Test.YtckmjglomofooaaFe
namespace Go.Proofs.Ytckmjglomofooaa
open Go.RowKit

theorem FBox.bound {w : World} {b bm : Nat} {most rest now : Int} {m : List Ent} (h : FBox w b most rest now bm m) (d l : Int) : 0 ≤ val m d l ∧ val m d l ≤ 100000000000000000 := by
  unfold val
  cases hf : m.find? (fun e => decide (e.d = d ∧ e.l = l)) with
  | none => exact ⟨by decide, by decide⟩
  | some e =>
    obtain ⟨_, _, _, _, o5, o6⟩ := h.ok e (List.mem_of_find?_eq_some hf)
    exact ⟨o5, o6⟩

theorem askR_whole {n now : Int} (h : n % 4 = 0) : askR n now = 0 := by unfold askR; rw [if_pos h]
theorem askR_wait {n now : Int} (h : ¬ n % 4 = 0) (h1 : now < n / 4) : askR n now = 170 := by unfold askR; rw [if_neg h, if_pos h1]
theorem askR_try {n now : Int} (h : ¬ n % 4 = 0) (h1 : ¬ now < n / 4) : askR n now = 0 := by unfold askR; rw [if_neg h, if_neg h1]
theorem askN_whole {n now rest : Int} (h : n % 4 = 0) : askN n now rest = n := by unfold askN; rw [if_pos h]
theorem askN_wait {n now rest : Int} (h : ¬ n % 4 = 0) (h1 : now < n / 4) : askN n now rest = n := by unfold askN; rw [if_neg h, if_pos h1]
theorem askN_try {n now rest : Int} (h : ¬ n % 4 = 0) (h1 : ¬ now < n / 4) : askN n now rest = (now + rest) * 4 + 2 := by unfold askN; rw [if_neg h, if_neg h1]
theorem didN_blown {n now most rest : Int} {well : Bool} (h : n % 4 = 1) : didN n well now most rest = n := by unfold didN; rw [if_pos h]
theorem didN_well {n now most rest : Int} (h : ¬ n % 4 = 1) : didN n true now most rest = 0 := by unfold didN; rw [if_neg h, if_pos rfl]
theorem didN_more {n now most rest : Int} (h : n % 4 = 0) (h1 : n / 4 + 1 < most) : didN n false now most rest = (n / 4 + 1) * 4 := by unfold didN; rw [if_neg (by omega), if_neg (by simp), if_pos ⟨h, h1⟩]
theorem didN_blows {n now most rest : Int} (h : ¬ n % 4 = 1) (h1 : ¬ (n % 4 = 0 ∧ n / 4 + 1 < most)) : didN n false now most rest = (now + rest) * 4 + 1 := by unfold didN; rw [if_neg h, if_neg (by simp), if_neg h1]

/-- What lies behind a call that turns one number. -/
def TurnPost (w : World) (b : Nat) (most rest now : Int) (bm : Nat) (m : List Ent) (d l tick : Int) (r : Int → Int) (nn : Int → Int) (e : Ending) (w' : World) : Prop :=
  ∃ m' t, t = max now tick ∧ e = .returned (.int .i64 (r t)) ∧ FBox w' b most rest t bm m' ∧ (∀ d' l', val m' d' l' = upd (val m) d l (nn t) d' l') ∧
      Fr w w' (FBox.of b bm m) ∧ ∀ k, FBox.of b bm m' k → FBox.of b bm m k ∨ w.heap.size ≤ k

set_option maxRecDepth 100000 in
set_option maxHeartbeats 1000000 in
theorem ask_raw {w : World} {b bm : Nat} {most rest now : Int} {m : List Ent} (h : FBox w b most rest now bm m) (d l tick : Int) (hok : ¬ BadAt d l tick) :
    Calls Try.prog 14 #[.pointer (some ⟨b, 0, none⟩), .agg #[.int .i64 d, .int .i64 l], .int .i64 tick] w (TurnPost w b most rest now bm m d l tick (fun t => askR (val m d l) t) (fun t => askN (val m d l) t rest)) := by
  have h1 : FBox (w.alloc (.cells #[.int .i64 d, .int .i64 l] 32)) b most rest now bm m := h.kept ((Fr.refl _ (fun _ => False)).alloc _) (fun _ _ h => h)
  have hn := h.now1
  have hr := h.rest1
  go_enter Try.func14, Try.ntmps14
  go_wp2_with fail
  refine (at_ok h1 d l tick hok).mono ?_
  rintro e w1 ⟨m1, x, t, hx, rfl, rfl, hxn, ht, rfl, h2, hv, hfr, hof⟩
  have hnow2 := h2.now1
  obtain ⟨o1, o2, o3, o4, o5, o6⟩ := h2.ok x hx
  have hfr1 : Fr w w1 (FBox.of b bm m) := (Fr.trans ((Fr.refl w (fun k => k = b ∨ k = bm)).alloc _) hfr (fun _ _ h => h)).mono (fun k _ hk => by rcases hk with hk | hk; exact .inl hk; exact .inr (.inl hk))
  have hof1 : ∀ k, FBox.of b bm m1 k → FBox.of b bm m k ∨ w.heap.size ≤ k := fun k hk => by
    rcases hof k hk with h' | h'
    · exact .inl h'
    · exact .inr (by simp at h'; omega)
  have cf : w1.cell? ⟨x.f, 0, none⟩ = some (.int .i64 x.n) := by rw [cell_of_block (h2.fuse x hx)]; rfl
  have ff : w1.frozen? ⟨x.f, 0, none⟩ = false := free_of_block (h2.fuse x hx) 0
  have cr : w1.cell? ⟨b, 1, none⟩ = some (.int .i64 rest) := by rw [cell_of_block h2.box]; rfl
  have HV := Lib.hid hv
  have HX := Lib.hid hxn
  have HT := Lib.hid ht
  have HOF := Lib.hid hof1
  have HM := Lib.hid hx
  clear hv hxn ht hof hof1 hfr hx h1 h
  by_cases c0 : x.n % 4 = 0
  · have c0' := Lib.hid c0
    have c0'' : (x.n % 4 == 0) = true := by simp [c0]
    clear c0
    go_wp2_with fail
    refine wp_loop_rounds 1 ?_
    rw [rounds_succ]
    go_wp2_with (go_at_call 25; refine (is_any ⟨x.f, 0, none⟩ x.n o5 (by omega) _ cf).mono ?_; rintro e w' ⟨rfl, rfl⟩)
    go_ret
    refine ⟨m1, t, HT.out, ?_, h2, fun d' l' => ?_, hfr1, HOF.out⟩
    · refine ret_int ?_
      show 0 = askR (val m x.d x.l) t
      rw [← HX.out, askR_whole c0'.out]
    · rw [HV.out]
      show _ = upd (val m) x.d x.l (askN (val m x.d x.l) t rest) d' l'
      rw [← HX.out, askN_whole c0'.out, HX.out, upd_same]
  · have c0' := Lib.hid c0
    have c0'' : (x.n % 4 == 0) = false := by simp [c0]
    clear c0
    by_cases c1 : t < x.n / 4
    · go_wp2_with fail
      refine wp_loop_rounds 1 ?_
      rw [rounds_succ]
      go_wp2_with (go_at_call 25; refine (is_any ⟨x.f, 0, none⟩ x.n o5 (by omega) _ cf).mono ?_; rintro e w' ⟨rfl, rfl⟩)
      go_ret
      refine ⟨m1, t, HT.out, ?_, h2, fun d' l' => ?_, hfr1, HOF.out⟩
      · refine ret_int ?_
        show 170 = askR (val m x.d x.l) t
        rw [← HX.out, askR_wait c0'.out c1]
      · rw [HV.out]
        show _ = upd (val m) x.d x.l (askN (val m x.d x.l) t rest) d' l'
        rw [← HX.out, askN_wait c0'.out c1, HX.out, upd_same]
    · go_wp2_with fail
      refine wp_loop_rounds 1 ?_
      rw [rounds_succ]
      go_wp2_with (first | (go_at_call 25; refine (is_any ⟨x.f, 0, none⟩ x.n o5 (by omega) _ cf).mono ?_; rintro e w' ⟨rfl, rfl⟩) | (go_at_call 26; refine (turn_any ⟨x.f, 0, none⟩ x.n 2 (t + rest) (by omega) (by omega) (by omega) (by omega) _ cf ff).mono ?_; rintro e w' ⟨rfl, rfl⟩))
      go_ret
      have hx := HM.out
      refine ⟨putN m1 x.d x.l ((t + rest) * 4 + 2), t, HT.out, ?_, h2.setN hx _ (by omega) (by omega), fun d' l' => ?_, hfr1.trans ((Fr.refl _ (fun k => k = x.f)).setCell _ _ (fun _ => rfl)) ?_, fun k hk => HOF.out k (of_putN hk)⟩
      · refine ret_int ?_
        show 0 = askR (val m x.d x.l) t
        rw [← HX.out, askR_try c0'.out (by omega)]
      · rw [val_putN _ _ _ _ ⟨x, hx, rfl, rfl⟩]
        show _ = upd (val m) x.d x.l (askN (val m x.d x.l) t rest) d' l'
        rw [← HX.out, askN_try c0'.out (by omega)]
        unfold upd
        rw [HV.out]
      · rintro i hi rfl
        rcases HOF.out x.f (.inr (.inr ⟨x, hx, rfl⟩)) with h' | h'
        · exact h'
        · omega

set_option maxRecDepth 100000 in
set_option maxHeartbeats 1000000 in
theorem did_raw {w : World} {b bm : Nat} {most rest now : Int} {m : List Ent} (h : FBox w b most rest now bm m) (d l tick : Int) (well : Bool) (hok : ¬ BadAt d l tick) :
    Calls Try.prog 12 #[.pointer (some ⟨b, 0, none⟩), .agg #[.int .i64 d, .int .i64 l], .bool well, .int .i64 tick] w (TurnPost w b most rest now bm m d l tick (fun _ => 0) (fun t => didN (val m d l) well t most rest)) := by
  have h1 : FBox (w.alloc (.cells #[.int .i64 d, .int .i64 l] 32)) b most rest now bm m := h.kept ((Fr.refl _ (fun _ => False)).alloc _) (fun _ _ h => h)
  have hn := h.now1
  have hr := h.rest1
  have hmo := h.most1
  go_enter Try.func12, Try.ntmps12
  go_wp2_with fail
  refine (at_ok h1 d l tick hok).mono ?_
  rintro e w1 ⟨m1, x, t, hx, rfl, rfl, hxn, ht, rfl, h2, hv, hfr, hof⟩
  have hnow2 := h2.now1
  obtain ⟨o1, o2, o3, o4, o5, o6⟩ := h2.ok x hx
  have hfr1 : Fr w w1 (FBox.of b bm m) := (Fr.trans ((Fr.refl w (fun k => k = b ∨ k = bm)).alloc _) hfr (fun _ _ h => h)).mono (fun k _ hk => by rcases hk with hk | hk; exact .inl hk; exact .inr (.inl hk))
  have hof1 : ∀ k, FBox.of b bm m1 k → FBox.of b bm m k ∨ w.heap.size ≤ k := fun k hk => by
    rcases hof k hk with h' | h'
    · exact .inl h'
    · exact .inr (by simp at h'; omega)
  have cf : w1.cell? ⟨x.f, 0, none⟩ = some (.int .i64 x.n) := by rw [cell_of_block (h2.fuse x hx)]; rfl
  have ff : w1.frozen? ⟨x.f, 0, none⟩ = false := free_of_block (h2.fuse x hx) 0
  have cr : w1.cell? ⟨b, 1, none⟩ = some (.int .i64 rest) := by rw [cell_of_block h2.box]; rfl
  have cm : w1.cell? ⟨b, 0, none⟩ = some (.int .i64 most) := by rw [cell_of_block h2.box]; rfl
  have HV := Lib.hid hv
  have HX := Lib.hid hxn
  have HT := Lib.hid ht
  have HOF := Lib.hid hof1
  have HM := Lib.hid hx
  clear hv hxn ht hof hof1 hfr hx h1 h
  have closing : ∀ (v : Int) (nq : Nat), didN x.n well t most rest = v → 0 ≤ v → v ≤ 100000000000000000 →
      TurnPost w b most rest now bm m x.d x.l tick (fun _ => 0) (fun t => didN (val m x.d x.l) well t most rest) (.returned (.int .i64 0)) ((w1.drewN nq).setCell ⟨x.f, 0, none⟩ (.int .i64 v)) := by
    intro v nq hv v0 v1
    have hx := HM.out
    refine ⟨putN m1 x.d x.l v, t, HT.out, rfl, (h2.drewN nq).setN hx v v0 v1, fun d' l' => ?_, (hfr1.drewN nq).trans ((Fr.refl _ (fun k => k = x.f)).setCell _ _ (fun _ => rfl)) ?_, fun k hk => HOF.out k (of_putN hk)⟩
    · rw [val_putN _ _ _ _ ⟨x, hx, rfl, rfl⟩]
      show _ = upd (val m) x.d x.l (didN (val m x.d x.l) well t most rest) d' l'
      rw [← HX.out, hv]
      unfold upd
      rw [HV.out]
    · rintro i hi rfl
      rcases HOF.out x.f (.inr (.inr ⟨x, hx, rfl⟩)) with h' | h'
      · exact h'
      · omega
  have CL := Lib.hid closing
  clear closing
  by_cases c1 : x.n % 4 = 1
  · have c1' := Lib.hid c1
    have c1'' : (x.n % 4 == 1) = true := by simp [c1]
    clear c1
    go_wp2_with fail
    refine wp_loop_rounds 1 ?_
    rw [rounds_succ]
    go_wp2_with (go_at_call 25; refine (is_any ⟨x.f, 0, none⟩ x.n o5 (by omega) _ cf).mono ?_; rintro e w' ⟨rfl, rfl⟩)
    go_quiet (fail)
    go_wp2
    go_ret
    refine ⟨m1, t, HT.out, rfl, h2.drewN nq, fun d' l' => ?_, hfr1.drewN nq, HOF.out⟩
    rw [HV.out]
    show _ = upd (val m) x.d x.l (didN (val m x.d x.l) well t most rest) d' l'
    rw [← HX.out, didN_blown c1'.out, HX.out, upd_same]
  · have c1' := Lib.hid c1
    have c1'' : (x.n % 4 == 1) = false := by simp [c1]
    clear c1
    cases well with
    | true =>
      go_wp2_with fail
      refine wp_loop_rounds 1 ?_
      rw [rounds_succ]
      go_wp2_with (go_at_call 25; refine (is_any ⟨x.f, 0, none⟩ x.n o5 (by omega) _ cf).mono ?_; rintro e w' ⟨rfl, rfl⟩)
      go_quiet (fail)
      go_wp2_with (go_at_call 26; refine (turn_any ⟨x.f, 0, none⟩ x.n 0 0 (by omega) (by omega) (by omega) (by omega) _ (by simpa using cf) (by simpa using ff)).mono ?_; rintro e w' ⟨rfl, rfl⟩)
      go_ret
      exact CL.out 0 nq (didN_well c1'.out) (by omega) (by omega)
    | false =>
      by_cases c0 : x.n % 4 = 0 ∧ x.n / 4 + 1 < most
      · obtain ⟨c2, c3⟩ := c0
        have c2' := Lib.hid c2
        have c2'' : (x.n % 4 == 0) = true := by simp [c2]
        clear c2
        go_wp2_with fail
        refine wp_loop_rounds 1 ?_
        rw [rounds_succ]
        go_wp2_with (go_at_call 25; refine (is_any ⟨x.f, 0, none⟩ x.n o5 (by omega) _ cf).mono ?_; rintro e w' ⟨rfl, rfl⟩)
        go_quiet (fail)
        go_wp2_with (go_at_call 26; refine (turn_any ⟨x.f, 0, none⟩ x.n 0 _ (by omega) (by omega) (by omega) (by omega) _ (by simpa using cf) (by simpa using ff)).mono ?_; rintro e w' ⟨rfl, rfl⟩)
        go_ret
        exact CL.out ((x.n / 4 + 1) * 4) nq (didN_more c2'.out c3) (by omega) (by omega)
      · by_cases c2 : x.n % 4 = 0
        · have c3 : most ≤ x.n / 4 + 1 := by omega
          have c2' := Lib.hid c2
          have c2'' : (x.n % 4 == 0) = true := by simp [c2]
          clear c2 c0
          go_wp2_with fail
          refine wp_loop_rounds 1 ?_
          rw [rounds_succ]
          go_wp2_with (go_at_call 25; refine (is_any ⟨x.f, 0, none⟩ x.n o5 (by omega) _ cf).mono ?_; rintro e w' ⟨rfl, rfl⟩)
          go_quiet (fail)
          go_wp2_with (go_at_call 26; refine (turn_any ⟨x.f, 0, none⟩ x.n 1 _ (by omega) (by omega) (by omega) (by omega) _ (by simpa using cf) (by simpa using ff)).mono ?_; rintro e w' ⟨rfl, rfl⟩)
          go_ret
          exact CL.out ((t + rest) * 4 + 1) nq (didN_blows c1'.out (by omega)) (by omega) (by omega)
        · have c0' := Lib.hid c0
          have c2'' : (x.n % 4 == 0) = false := by simp [c2]
          clear c2 c0
          go_wp2_with fail
          refine wp_loop_rounds 1 ?_
          rw [rounds_succ]
          go_wp2_with (go_at_call 25; refine (is_any ⟨x.f, 0, none⟩ x.n o5 (by omega) _ cf).mono ?_; rintro e w' ⟨rfl, rfl⟩)
          go_quiet (fail)
          go_wp2_with (go_at_call 26; refine (turn_any ⟨x.f, 0, none⟩ x.n 1 _ (by omega) (by omega) (by omega) (by omega) _ (by simpa using cf) (by simpa using ff)).mono ?_; rintro e w' ⟨rfl, rfl⟩)
          go_ret
          exact CL.out ((t + rest) * 4 + 1) nq (didN_blows c1'.out c0'.out) (by omega) (by omega)
end Go.Proofs.Ytckmjglomofooaa
