/-
  The fuse seat: the contracts over a box by what it answers: Ask, Did, does, stands, Spots, Tick.
-/
import Derived.Test.YtckmjglomofooaaFi
namespace Go.Proofs.Ytckmjglomofooaa
open Go.RowKit

theorem FB.of_turn {w w' : World} {b bm : Nat} {most rest : Int} {m m' : List Ent} {st' : Int → Int → Int} {F : Nat → Prop} {t : Int} (h3 : ∀ k, FBox.of b bm m k → F k) (h4 : ∀ k, F k → k < w.heap.size)
    (k2 : FBox w' b most rest t bm m') (k3 : ∀ d' l', val m' d' l' = st' d' l') (k4 : Fr w w' (FBox.of b bm m)) (k5 : ∀ k, FBox.of b bm m' k → FBox.of b bm m k ∨ w.heap.size ≤ k) : FB w' b most rest t st' (grow F w w') ∧ Fr w w' F := by
  refine ⟨⟨bm, m', k2, k3, fun k hk => ?_, fun k hk => ?_⟩, k4.mono (fun k _ hk => h3 k hk)⟩
  · rcases k5 k hk with h | h
    · exact .inl (h3 k h)
    · exact .inr ⟨h, k2.fuseLt k hk⟩
  · rcases hk with hk | ⟨_, hk⟩
    · exact Nat.lt_of_lt_of_le (h4 k hk) k4.size
    · exact hk

theorem ask_fb {w : World} {b : Nat} {most rest now : Int} {st : Int → Int → Int} {F : Nat → Prop} (h : FB w b most rest now st F) (d l tick : Int) (hok : ¬ BadAt d l tick) :
    Calls Try.prog 14 #[.pointer (some ⟨b, 0, none⟩), .agg #[.int .i64 d, .int .i64 l], .int .i64 tick] w fun e w' => ∃ t, t = max now tick ∧ e = .returned (.int .i64 (askR (st d l) t)) ∧ FB w' b most rest t (upd st d l (askN (st d l) t rest)) (grow F w w') ∧ Fr w w' F := by
  obtain ⟨bm, m, h1, h2, h3, h4⟩ := h
  refine (ask_raw h1 d l tick hok).mono ?_
  rintro e w' ⟨m', t, k0, k1, k2, k3, k4, k5⟩
  have hst : val m = st := by funext x y; exact h2 x y
  rw [hst] at k3
  refine ⟨t, k0, ?_, FB.of_turn h3 h4 k2 k3 k4 k5⟩
  rw [k1, hst]

theorem did_fb {w : World} {b : Nat} {most rest now : Int} {st : Int → Int → Int} {F : Nat → Prop} (h : FB w b most rest now st F) (d l tick : Int) (well : Bool) (hok : ¬ BadAt d l tick) :
    Calls Try.prog 12 #[.pointer (some ⟨b, 0, none⟩), .agg #[.int .i64 d, .int .i64 l], .bool well, .int .i64 tick] w fun e w' => ∃ t, t = max now tick ∧ e = .returned (.int .i64 0) ∧ FB w' b most rest t (upd st d l (didN (st d l) well t most rest)) (grow F w w') ∧ Fr w w' F := by
  obtain ⟨bm, m, h1, h2, h3, h4⟩ := h
  refine (did_raw h1 d l tick well hok).mono ?_
  rintro e w' ⟨m', t, k0, k1, k2, k3, k4, k5⟩
  have hst : val m = st := by funext x y; exact h2 x y
  rw [hst] at k3
  exact ⟨t, k0, k1, FB.of_turn h3 h4 k2 k3 k4 k5⟩

set_option maxRecDepth 100000 in
theorem ask_bad {w : World} {b : Nat} {most rest now : Int} {st : Int → Int → Int} {F : Nat → Prop} (h : FB w b most rest now st F) (d l tick : Int) (hbad : BadAt d l tick) :
    Calls Try.prog 14 #[.pointer (some ⟨b, 0, none⟩), .agg #[.int .i64 d, .int .i64 l], .int .i64 tick] w fun e w' => e = .returned (.int .i64 9) ∧ Fr w w' (fun _ => False) := by
  obtain ⟨bm, m, h1, h2, h3, h4⟩ := h
  have h5 : FBox (w.alloc (.cells #[.int .i64 d, .int .i64 l] 32)) b most rest now bm m := h1.kept ((Fr.refl _ (fun _ => False)).alloc _) (fun _ _ h => h)
  have HC := Lib.hid (at_bad h5 d l tick hbad)
  clear h2 h3 h4 hbad
  go_enter Try.func14, Try.ntmps14
  go_wp2_with (go_at_call 24; refine (HC.out).mono ?_; rintro e w' ⟨rfl, rfl⟩)
  go_ret
  exact ⟨rfl, ((Fr.refl w _).alloc _).alloc _⟩

set_option maxRecDepth 100000 in
theorem did_bad {w : World} {b : Nat} {most rest now : Int} {st : Int → Int → Int} {F : Nat → Prop} (h : FB w b most rest now st F) (d l tick : Int) (well : Bool) (hbad : BadAt d l tick) :
    Calls Try.prog 12 #[.pointer (some ⟨b, 0, none⟩), .agg #[.int .i64 d, .int .i64 l], .bool well, .int .i64 tick] w fun e w' => e = .returned (.int .i64 9) ∧ Fr w w' (fun _ => False) := by
  obtain ⟨bm, m, h1, h2, h3, h4⟩ := h
  have h5 : FBox (w.alloc (.cells #[.int .i64 d, .int .i64 l] 32)) b most rest now bm m := h1.kept ((Fr.refl _ (fun _ => False)).alloc _) (fun _ _ h => h)
  have HC := Lib.hid (at_bad h5 d l tick hbad)
  clear h2 h3 h4 hbad
  go_enter Try.func12, Try.ntmps12
  go_wp2_with (go_at_call 24; refine (HC.out).mono ?_; rintro e w' ⟨rfl, rfl⟩)
  go_ret
  exact ⟨rfl, ((Fr.refl w _).alloc _).alloc _⟩

theorem FB.later {w w1 w' : World} {b : Nat} {most rest t : Int} {st' : Int → Int → Int} {F : Nat → Prop} (hlt : ∀ k, F k → k < w.heap.size) (f1 : Fr w w1 (fun _ => False)) (hb : FB w' b most rest t st' (grow F w1 w')) (f2 : Fr w1 w' F) : FB w' b most rest t st' (grow F w w') ∧ Fr w w' F := by
  refine ⟨hb.mono (fun k hk => ?_) (fun k hk => ?_), Fr.trans (f1.mono (fun _ _ h => h.elim)) f2 (fun _ _ h => h)⟩
  · rcases hk with hk | ⟨a, b⟩
    · exact .inl hk
    · exact .inr ⟨Nat.le_trans f1.size a, b⟩
  · rcases hk with hk | ⟨_, b⟩
    · exact Nat.lt_of_lt_of_le (hlt k hk) (Nat.le_trans f1.size f2.size)
    · exact b

/-- What does answers, and the number behind. -/
def doR (k n t : Int) : Int := if k < 2 then askR n t else 0
def doN (k n t most rest : Int) : Int := if k < 2 then askN n t rest else didN n (decide (k = 2)) t most rest

set_option maxRecDepth 100000 in
theorem does_fb {w : World} {b : Nat} {most rest now : Int} {st : Int → Int → Int} {F : Nat → Prop} (h : FB w b most rest now st F) (sp what on tick : Int) (hs0 : -9223372036854775808 ≤ sp) (hs1 : sp ≤ 9223372036854775807) (hw0 : -9223372036854775808 ≤ what) (hw1 : what ≤ 9223372036854775807)
    (ht0 : 0 ≤ tick) (ht1 : tick ≤ 4503599627370496) :
    Calls Try.prog 19 #[.pointer (some ⟨b, 0, none⟩), .agg #[.int .i64 sp, .int .i64 what, .int .i64 on], .int .i64 tick] w fun e w' => ∃ t, t = max now tick ∧ e = .returned (.int .i64 (doR (what % 5) (st (sp % 9 / 3) (sp % 9 % 3)) t)) ∧
      FB w' b most rest t (upd st (sp % 9 / 3) (sp % 9 % 3) (doN (what % 5) (st (sp % 9 / 3) (sp % 9 % 3)) t most rest)) (grow F w w') ∧ Fr w w' F := by
  have k1 : 0 ≤ sp % 9 := Int.emod_nonneg _ (by decide)
  have k2 : sp % 9 < 9 := Int.emod_lt_of_pos _ (by decide)
  have k3 : 0 ≤ what % 5 := Int.emod_nonneg _ (by decide)
  have k4 : what % 5 < 5 := Int.emod_lt_of_pos _ (by decide)
  have hsp := fun W => spot_any sp hs0 hs1 W
  have hbr := fun W => bring_any what 5 hw0 hw1 (by omega) (by omega) W
  generalize sp % 9 = s at *
  generalize what % 5 = k at *
  have hok : ¬ BadAt (s / 3) (s % 3) tick := by unfold BadAt; omega
  have HS := Lib.hid hsp
  have HB := Lib.hid hbr
  have HOK := Lib.hid hok
  clear hsp hbr hok
  have hlt : ∀ k, F k → k < w.heap.size := by obtain ⟨_, _, _, _, _, h4⟩ := h; exact h4
  have HLT := Lib.hid hlt
  clear hlt
  by_cases c : k < 2
  · have e1 : ∀ n t, doR k n t = askR n t := fun n t => if_pos c
    have e2 : ∀ n t, doN k n t most rest = askN n t rest := fun n t => if_pos c
    have E1 := Lib.hid e1
    have E2 := Lib.hid e2
    clear e1 e2
    go_enter Try.func19, Try.ntmps19
    go_wp2_with (first | (go_at_call 11; refine (HB.out _).mono ?_; rintro e w' ⟨rfl, rfl⟩) | fail)
    refine (HS.out _).mono ?_
    rintro e w1 ⟨rfl, f1⟩
    have F1 := Lib.hid f1
    have h1 := h.kept ((Fr.refl w (fun _ => False)).alloc _ |>.trans f1 (fun _ _ h => h)) (fun _ _ h => h)
    clear f1
    go_wp2_with fail
    refine (ask_fb h1 _ _ _ HOK.out).mono ?_
    rintro e w2 ⟨t, ht, rfl, h2, f2⟩
    have HT := Lib.hid ht
    clear ht
    go_wp2
    go_ret
    refine ⟨t, HT.out, ret_int (E1.out _ _).symm, ?_⟩
    rw [E2.out]
    exact FB.later HLT.out ((Fr.refl w (fun _ => False)).alloc _ |>.trans F1.out (fun _ _ h => h)) h2 f2
  · have e1 : ∀ n t, doR k n t = 0 := fun n t => if_neg c
    have e2 : ∀ n t, doN k n t most rest = didN n (decide (k = 2)) t most rest := fun n t => if_neg c
    have E1 := Lib.hid e1
    have E2 := Lib.hid e2
    clear e1 e2
    go_enter Try.func19, Try.ntmps19
    go_wp2_with (first | (go_at_call 11; refine (HB.out _).mono ?_; rintro e w' ⟨rfl, rfl⟩) | fail)
    refine (HS.out _).mono ?_
    rintro e w1 ⟨rfl, f1⟩
    have F1 := Lib.hid f1
    have h1 := h.kept ((Fr.refl w (fun _ => False)).alloc _ |>.trans f1 (fun _ _ h => h)) (fun _ _ h => h)
    clear f1
    go_wp2_with fail
    refine (did_fb h1 _ _ _ _ HOK.out).mono ?_
    rintro e w2 ⟨t, ht, rfl, h2, f2⟩
    have HT := Lib.hid ht
    clear ht
    go_wp2
    go_ret
    refine ⟨t, HT.out, ret_int (E1.out _ _).symm, ?_⟩
    rw [E2.out]
    exact FB.later HLT.out ((Fr.refl w (fun _ => False)).alloc _ |>.trans F1.out (fun _ _ h => h)) h2 f2
end Go.Proofs.Ytckmjglomofooaa
