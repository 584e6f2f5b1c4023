/-
  The fuse seat: State, stands, spot, does: a box by what it answers.
-/
import Derived.Test.YtckmjglomofooaaFh
namespace Go.Proofs.Ytckmjglomofooaa
open Go.RowKit

/-- What State answers of a number. -/
def stS (n : Int) : Int := if n % 4 = 0 then 0 else n % 4
def stF (n : Int) : Int := if n % 4 = 0 then n / 4 else 0
def stU (n : Int) : Int := if n % 4 = 0 then 0 else n / 4

set_option maxRecDepth 100000 in
set_option maxHeartbeats 1000000 in
theorem state_raw {w : World} {b bm : Nat} {most rest now : Int} {m : List Ent} (h : FBox w b most rest now bm m) (d l : Int) (hd : (Lit.int .i64 d).wf = true) (hl : (Lit.int .i64 l).wf = true) :
    Calls Try.prog 20 #[.pointer (some ⟨b, 0, none⟩), .agg #[.int .i64 d, .int .i64 l]] w fun e w' => e = .returned (.tuple #[.int .i64 (stS (val m d l)), .int .i64 (stF (val m d l)), .int .i64 (stU (val m d l))]) ∧ ∃ n, w' = (w.alloc (.cells #[.int .i64 d, .int .i64 l] 32)).drewN n := by
  have h1 : FBox (w.alloc (.cells #[.int .i64 d, .int .i64 l] 32)) b most rest now bm m := h.kept ((Fr.refl _ (fun _ => False)).alloc _) (fun _ _ h => h)
  have c3 : (w.alloc (.cells #[.int .i64 d, .int .i64 l] 32)).cell? ⟨b, 3, none⟩ = some (.map (some bm)) := by rw [cell_of_block h1.box]; rfl
  rcases h1.map.find h1.ok d l hd hl with ⟨_, hx, _⟩ | ⟨x, hx, rfl, rfl, _⟩
  · have hv := val_none hx
    have hlk : ∀ n : Nat, (Instr.lookup 66 (.map (some bm)) (.agg #[.int .i64 d, .int .i64 l]) false).run Try.prog ((w.alloc (.cells #[.int .i64 d, .int .i64 l] 32)).drewN n) = .ok (.pointer none) ((w.alloc (.cells #[.int .i64 d, .int .i64 l] 32)).drewN n) := fun n => by
      rcases (h1.drewN n).map.find h1.ok d l hd hl with ⟨k, _⟩ | ⟨e, he, k1, k2, _⟩
      · exact k
      · exact (hx e he ⟨k1, k2⟩).elim
    rw [hv]
    have HX := Lib.hid hx
    clear hx hv
    go_enter Try.func20, Try.ntmps20
    go_wp2_with fail
    go_quiet ((go_at_call 32; exact Calls.quiet_of_same ((none_box (h1.drewN _)).mono fun _ _ ⟨a, b⟩ => ⟨a, b.symm⟩)))
    go_wp2
    go_ret3
    exact ⟨rfl, _, rfl⟩
  · have hv := val_mem h1.map.keys_nodup hx
    have hlk : ∀ n : Nat, _ := fun n => (h1.drewN n).map.look h1.ok hx
    unfold spotV at hlk
    obtain ⟨o1, o2, o3, o4, o5, o6⟩ := h1.ok x hx
    have cf : (w.alloc (.cells #[.int .i64 x.d, .int .i64 x.l] 32)).cell? ⟨x.f, 0, none⟩ = some (.int .i64 x.n) := by rw [cell_of_block (h1.fuse x hx)]; rfl
    rw [hv]
    have HX := Lib.hid hx
    clear hx hv
    by_cases c0 : x.n % 4 = 0
    · have C0 := Lib.hid c0
      have c0' : (x.n % 4 == 0) = true := by simp [c0]
      have e1 : stS x.n = 0 := if_pos c0
      have e2 : stF x.n = x.n / 4 := if_pos c0
      have e3 : stU x.n = 0 := if_pos c0
      rw [e1, e2, e3]
      clear c0 e1 e2 e3
      go_enter Try.func20, Try.ntmps20
      go_wp2_with fail
      go_quiet ((go_at_call 32; exact Calls.quiet_of_same ((none_box (h1.drewN _)).mono fun _ _ ⟨a, b⟩ => ⟨a, b.symm⟩)))
      go_wp2_with fail
      have h2 := h1.drewN nq
      have k1 : ((w.alloc (.cells #[.int .i64 x.d, .int .i64 x.l] 32)).drewN nq).cell? ⟨b, 3, none⟩ = some (.map (some bm)) := c3
      have k2 : ((w.alloc (.cells #[.int .i64 x.d, .int .i64 x.l] 32)).drewN nq).cell? ⟨x.f, 0, none⟩ = some (.int .i64 x.n) := cf
      have k3 : ((w.alloc (.cells #[.int .i64 x.d, .int .i64 x.l] 32)).drewN nq).cell? ⟨w.heap.size, 0, none⟩ = some (.int .i64 x.d) := by simp
      have k4 : ((w.alloc (.cells #[.int .i64 x.d, .int .i64 x.l] 32)).drewN nq).cell? ⟨w.heap.size, 1, none⟩ = some (.int .i64 x.l) := by simp
      have k5 : ∃ n, ((w.alloc (.cells #[.int .i64 x.d, .int .i64 x.l] 32)).drewN nq) = (w.alloc (.cells #[.int .i64 x.d, .int .i64 x.l] 32)).drewN n := ⟨nq, rfl⟩
      generalize (w.alloc (.cells #[.int .i64 x.d, .int .i64 x.l] 32)).drewN nq = W2 at h2 k1 k2 k3 k4 k5 ⊢
      have hlk2 : ∀ n : Nat, _ := fun n => (h2.drewN n).map.look h1.ok HX.out
      unfold spotV at hlk2
      have K5 := Lib.hid k5
      clear k5 hlk c3 cf
      go_quiet ((go_at_call 25; exact Calls.quiet_of_same ((is_any ⟨x.f, 0, none⟩ x.n o5 (by omega) _ (by simpa using k2)).mono fun _ _ ⟨a, b⟩ => ⟨a, b.symm⟩)))
      go_wp2
      go_ret3
      obtain ⟨n, hn⟩ := K5.out
      exact ⟨rfl, n + nq, by rw [hn, World.drewN_drewN]⟩
    · have C0 := Lib.hid c0
      have c0' : (x.n % 4 == 0) = false := by simp [c0]
      have e1 : stS x.n = x.n % 4 := if_neg c0
      have e2 : stF x.n = 0 := if_neg c0
      have e3 : stU x.n = x.n / 4 := if_neg c0
      rw [e1, e2, e3]
      clear c0 e1 e2 e3
      go_enter Try.func20, Try.ntmps20
      go_wp2_with fail
      go_quiet ((go_at_call 32; exact Calls.quiet_of_same ((none_box (h1.drewN _)).mono fun _ _ ⟨a, b⟩ => ⟨a, b.symm⟩)))
      go_wp2_with fail
      have h2 := h1.drewN nq
      have k1 : ((w.alloc (.cells #[.int .i64 x.d, .int .i64 x.l] 32)).drewN nq).cell? ⟨b, 3, none⟩ = some (.map (some bm)) := c3
      have k2 : ((w.alloc (.cells #[.int .i64 x.d, .int .i64 x.l] 32)).drewN nq).cell? ⟨x.f, 0, none⟩ = some (.int .i64 x.n) := cf
      have k3 : ((w.alloc (.cells #[.int .i64 x.d, .int .i64 x.l] 32)).drewN nq).cell? ⟨w.heap.size, 0, none⟩ = some (.int .i64 x.d) := by simp
      have k4 : ((w.alloc (.cells #[.int .i64 x.d, .int .i64 x.l] 32)).drewN nq).cell? ⟨w.heap.size, 1, none⟩ = some (.int .i64 x.l) := by simp
      have k5 : ∃ n, ((w.alloc (.cells #[.int .i64 x.d, .int .i64 x.l] 32)).drewN nq) = (w.alloc (.cells #[.int .i64 x.d, .int .i64 x.l] 32)).drewN n := ⟨nq, rfl⟩
      generalize (w.alloc (.cells #[.int .i64 x.d, .int .i64 x.l] 32)).drewN nq = W2 at h2 k1 k2 k3 k4 k5 ⊢
      have hlk2 : ∀ n : Nat, _ := fun n => (h2.drewN n).map.look h1.ok HX.out
      unfold spotV at hlk2
      have K5 := Lib.hid k5
      clear k5 hlk c3 cf
      go_quiet ((go_at_call 25; exact Calls.quiet_of_same ((is_any ⟨x.f, 0, none⟩ x.n o5 (by omega) _ (by simpa using k2)).mono fun _ _ ⟨a, b⟩ => ⟨a, b.symm⟩)))
      go_wp2
      go_ret3
      obtain ⟨n, hn⟩ := K5.out
      exact ⟨rfl, n + nq, by rw [hn, World.drewN_drewN]⟩

/-- Does a number stand so? -/
def standsB (n s f u : Int) : Bool := decide (stS n = s ∧ stF n = f ∧ stU n = u)

set_option maxRecDepth 100000 in
set_option maxHeartbeats 1000000 in
theorem stands_raw {w : World} {b bm : Nat} {most rest now : Int} {m : List Ent} (h : FBox w b most rest now bm m) (d l s f u : Int) (hd : (Lit.int .i64 d).wf = true) (hl : (Lit.int .i64 l).wf = true) :
    Calls Try.prog 21 #[.pointer (some ⟨b, 0, none⟩), .agg #[.int .i64 d, .int .i64 l], .int .i64 s, .int .i64 f, .int .i64 u] w fun e w' => e = .returned (.bool (standsB (val m d l) s f u)) ∧ Fr w w' (fun _ => False) := by
  have h1 : FBox (w.alloc (.cells #[.int .i64 d, .int .i64 l] 32)) b most rest now bm m := h.kept ((Fr.refl _ (fun _ => False)).alloc _) (fun _ _ h => h)
  generalize hn : val m d l = n
  have hst := state_raw h1 d l hd hl
  rw [hn] at hst
  clear hn
  generalize hS : stS n = xs at hst
  generalize hF : stF n = xf at hst
  generalize hU : stU n = xu at hst
  have e0 : standsB n s f u = decide (xs = s ∧ xf = f ∧ xu = u) := by unfold standsB; rw [hS, hF, hU]
  rw [e0]
  clear e0 hS hF hU
  have HST := Lib.hid hst
  clear hst
  by_cases k1 : xs = s
  · subst k1
    by_cases k2 : xf = f
    · subst k2
      by_cases k3 : xu = u
      · subst k3
        go_enter Try.func21, Try.ntmps21
        go_wp2_with (go_at_call 20; refine (HST.out).mono ?_; rintro e w' ⟨rfl, n, rfl⟩)
        go_ret
        exact ⟨by simp, ((Fr.refl w _).alloc _).alloc _ |>.drewN _⟩
      · go_enter Try.func21, Try.ntmps21
        go_wp2_with (go_at_call 20; refine (HST.out).mono ?_; rintro e w' ⟨rfl, n, rfl⟩)
        go_ret
        exact ⟨by simp [k3], ((Fr.refl w _).alloc _).alloc _ |>.drewN _⟩
    · go_enter Try.func21, Try.ntmps21
      go_wp2_with (go_at_call 20; refine (HST.out).mono ?_; rintro e w' ⟨rfl, n, rfl⟩)
      go_ret
      exact ⟨by simp [k2], ((Fr.refl w _).alloc _).alloc _ |>.drewN _⟩
  · go_enter Try.func21, Try.ntmps21
    go_wp2_with (go_at_call 20; refine (HST.out).mono ?_; rintro e w' ⟨rfl, n, rfl⟩)
    go_ret
    exact ⟨by simp [k1], ((Fr.refl w _).alloc _).alloc _ |>.drewN _⟩

/-- spot: one of nine. -/
theorem spot_any (n : Int) (h0 : -9223372036854775808 ≤ n) (h1 : n ≤ 9223372036854775807) (w : World) :
    Calls Try.prog 18 #[.int .i64 n] w fun e w' => e = .returned (.agg #[.int .i64 (n % 9 / 3), .int .i64 (n % 9 % 3)]) ∧ Fr w w' (fun _ => False) := by
  have k1 : 0 ≤ n % 9 := Int.emod_nonneg _ (by decide)
  have k2 : n % 9 < 9 := Int.emod_lt_of_pos _ (by decide)
  generalize hm : n % 9 = m at k1 k2 ⊢
  have hbr := fun W => bring_any n 9 h0 h1 (by omega) (by omega) W
  rw [hm] at hbr
  have HBR := Lib.hid hbr
  clear hbr hm
  go_enter Try.func18, Try.ntmps18
  go_wp2_with (go_at_call 11; refine (HBR.out _).mono ?_; rintro e w' ⟨rfl, rfl⟩)
  exact bodyPost_ret (v := .agg #[.int .i64 (m / 3), .int .i64 (m % 3)]) (by simp [results, Try.results18, go_sem]) rfl ⟨rfl, (Fr.refl w _).alloc _⟩
end Go.Proofs.Ytckmjglomofooaa
