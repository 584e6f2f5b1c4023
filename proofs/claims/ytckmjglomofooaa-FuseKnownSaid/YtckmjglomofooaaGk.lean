/-
  The fuse seat: same: a box and the reference box that say the same stand alike.
-/
import Derived.Test.YtckmjglomofooaaGj
namespace Go.Proofs.Ytckmjglomofooaa
open Go.RowKit

theorem row_spots {w : World} {base : Nat} {v : Value} {l : List (Int × Int)} (h : w.ownsRow base 32 2 v l.length (flat l)) :
    ∃ p cap, v = .slice p l.length cap ∧ l.length ≤ 9223372036854775807 ∧ ∀ k x, l[k]? = some x → ∃ g, p = some ⟨g, 0, none⟩ ∧ g < w.heap.size ∧ w.cell? ⟨g, k * 2, none⟩ = some (.int .i64 x.1) ∧ w.cell? ⟨g, k * 2 + 1, none⟩ = some (.int .i64 x.2) := by
  rcases h.2 with ⟨rfl, h0⟩ | ⟨g, cap, cur, rfl, _, hg, hn, hm, hs, ht⟩
  · have : l = [] := List.length_eq_zero_iff.1 h0
    subst this
    exact ⟨none, 0, rfl, by simp, fun k x hx => by simp at hx⟩
  · refine ⟨some ⟨g, 0, none⟩, cap, rfl, by unfold maxLen at hm; omega, fun k x hx => ⟨g, rfl, lt_of_some hg, ?_, ?_⟩⟩
    · have := h.cells (g := g) rfl (k * 2) (.int .i64 x.1) (by rw [Nat.mul_comm, (flat_get l k).1, hx]; rfl)
      rwa [addr_add] at this
    · have := h.cells (g := g) rfl (k * 2 + 1) (.int .i64 x.2) (by rw [Nat.mul_comm, (flat_get l k).2, hx]; rfl)
      rwa [addr_add] at this

section
variable {wS w : World} {P : Nat → Prop} {b m : Nat} {most rest nb nm : Int} {sb sm : Int → Int → Int} {N : Nat}

theorem Pair.spots (h : Pair wS P w b m most rest nb sb nm sm N) :
    Calls Try.prog 22 #[.pointer (some ⟨b, 0, none⟩)] w fun e w' => ∃ v l, e = .returned v ∧ SpotsOf sb l ∧ w'.ownsRow w.heap.size 32 2 v l.length (flat l) ∧ Below w.heap.size w w' := by
  obtain ⟨FA, FM, h1, h2, h3, h4, h5, h6, h7⟩ := h
  exact spots_fb h1

theorem Pair.rspots (h : Pair wS P w b m most rest nb sb nm sm N) (hN : N ≤ 100000) :
    Calls Try.prog 31 #[.pointer (some ⟨m, 0, none⟩)] w fun e w' => ∃ u L, e = .returned u ∧ ROf L sm ∧ w'.ownsRow w.heap.size 32 2 u (spotsOf L).length (flat (spotsOf L)) ∧ Below w.heap.size w w' := by
  obtain ⟨FA, FM, h1, ⟨g0, v, L, g1, g2, g3, g4, g5, g6⟩, h3, h4, h5, h6, h7⟩ := h
  refine (rspots_any g1 (by omega)).mono ?_
  rintro e w' ⟨u, rfl, hr, hb⟩
  exact ⟨u, L, rfl, g2, hr, hb⟩

set_option maxRecDepth 100000 in
set_option maxHeartbeats 2000000 in
theorem same_any {st : Int → Int → Int} {now : Int} (h : Pair wS P w b m most rest now st now st N) (hN : N ≤ 100000) (d l : Int) (hd : (Lit.int .i64 d).wf = true) (hl : (Lit.int .i64 l).wf = true) :
    Calls Try.prog 16 #[.pointer (some ⟨b, 0, none⟩), .pointer (some ⟨m, 0, none⟩), .agg #[.int .i64 d, .int .i64 l]] w fun e w' => e = .returned (.bool true) ∧ Fr w w' (fun _ => False) := by
  obtain ⟨x, hx⟩ : ∃ x, stS (st d l) = x := ⟨_, rfl⟩
  obtain ⟨y, hy⟩ : ∃ x, stF (st d l) = x := ⟨_, rfl⟩
  obtain ⟨z, hz⟩ : ∃ x, stU (st d l) = x := ⟨_, rfl⟩
  have HX := Lib.hid (And.intro hx (And.intro hy hz))
  have H := Lib.hid h
  clear hx hy hz h
  go_enter Try.func16, Try.ntmps16
  go_wp2_with fail
  have b0 : (w.alloc (.cells #[.int .i64 d, .int .i64 l] 32)).cell? ⟨w.heap.size, 0, none⟩ = some (.int .i64 d) := by simp
  have b1 : (w.alloc (.cells #[.int .i64 d, .int .i64 l] 32)).cell? ⟨w.heap.size, 1, none⟩ = some (.int .i64 l) := by simp
  have f0 : Fr w (w.alloc (.cells #[.int .i64 d, .int .i64 l] 32)) (fun _ => False) := (Fr.refl w _).alloc _
  refine ((H.out.quiet f0).state d l x y z hd hl HX.out.1 HX.out.2.1 HX.out.2.2).mono ?_
  rintro e w1 ⟨rfl, P1, f1⟩
  have c0 := f1.cellq b0 (fun h => h)
  have c1 := f1.cellq b1 (fun h => h)
  have F1 := Lib.hid (f0.trans f1 (fun _ _ h => h))
  clear b0 b1 f0 f1
  go_wp2_with fail
  refine (P1.rstate d l x y z HX.out.1 HX.out.2.1 HX.out.2.2).mono ?_
  rintro e w2 ⟨rfl, P2, f2⟩
  have F2 := Lib.hid (F1.out.trans f2 (fun _ _ h => h))
  clear c0 c1 f2 P1 F1
  go_wp2_with fail
  refine P2.spots.mono ?_
  rintro e w3 ⟨v, K, rfl, hK, hv, hb3⟩
  have P3 := P2.quiet (Fr.below hb3 (Nat.le_refl _) (fun _ => False))
  obtain ⟨p, cap, rfl, hlen, hcells⟩ := row_spots hv
  have HC := Lib.hid hcells
  have HK := Lib.hid hK
  have F3 := Lib.hid (F2.out.trans (Fr.below hb3 (Nat.le_refl _) (fun _ => False)) (fun _ _ h => h))
  clear hv hb3 P2 F2 hcells hK
  go_wp2_with fail
  refine (P3.rspots hN).mono ?_
  rintro e w4 ⟨u, L, rfl, hL, hu, hb4⟩
  have P4 := P3.quiet (Fr.below hb4 (Nat.le_refl _) (fun _ => False))
  have hKL := spots_one HK.out hL
  subst hKL
  obtain ⟨p2, cap2, rfl, _, hcells2⟩ := row_spots hu
  have HC2 := Lib.hid hcells2
  have hc4 : ∀ k x, (spotsOf L)[k]? = some x → ∃ g, p = some ⟨g, 0, none⟩ ∧ w4.cell? ⟨g, k * 2, none⟩ = some (.int .i64 x.1) ∧ w4.cell? ⟨g, k * 2 + 1, none⟩ = some (.int .i64 x.2) := by
    intro k x hx
    obtain ⟨g, rfl, hg, q0, q1⟩ := HC.out k x hx
    exact ⟨g, rfl, by rw [hb4.cell (by exact hg)]; exact q0, by rw [hb4.cell (by exact hg)]; exact q1⟩
  have HC4 := Lib.hid hc4
  have F4 := Lib.hid (F3.out.trans (Fr.below hb4 (Nat.le_refl _) (fun _ => False)) (fun _ _ h => h))
  have cn := P4.now
  have PT := Lib.hid (P4.quiet (Fr.refl w4 (fun _ => False)).drew)
  clear hu hb4 P3 P4 F3 hcells2 hc4 HC HK hL
  generalize spotsOf L = K at *
  go_wp2_with fail
  have TK := Lib.hid PT.out.tick
  go_region_held3 (fun wx => wx.cell? ⟨m, 2, none⟩ = some (.int .i64 now)) (go_keep)
    (first
    | (go_at_call 23
       refine (TK.out).mono ?_
       rintro e w5 ⟨rfl, rfl⟩))
  go_wp2_with fail
  clear cn
  go_loopw [15] (fun iv wr => ∃ k n : Nat, iv = .int .i64 k ∧ k ≤ K.length ∧ wr = w4.drewN n) (fun iv _ => K.length - (intOf iv).toNat)
  case atStart => exact ⟨0, 1, rfl, Nat.zero_le _, rfl⟩
  case round =>
    obtain ⟨k, n, rfl, hk, rfl⟩ := hrel
    by_cases hl : k < K.length
    · obtain ⟨x, hx⟩ : ∃ x, K[k]? = some x := ⟨_, List.getElem?_eq_getElem hl⟩
      obtain ⟨g, rfl, a0, a1⟩ := HC4.out k x hx
      obtain ⟨g2, rfl, _, a2, a3⟩ := HC2.out k x hx
      have hl2 : (k : Int) < (K.length : Int) := by omega
      have HX2 := Lib.hid hx
      clear hx
      go_wp2_with fail
      go_region_held3 (fun wx => wx.cell? ⟨g, k * 2, none⟩ = some (.int .i64 x.1) ∧ wx.cell? ⟨g, k * 2 + 1, none⟩ = some (.int .i64 x.2) ∧ wx.cell? ⟨g2, k * 2, none⟩ = some (.int .i64 x.1) ∧ wx.cell? ⟨g2, k * 2 + 1, none⟩ = some (.int .i64 x.2)) (go_keep) (fail)
      go_wp2_with fail
      go_roundw
      case rel => exact ⟨k + 1, n + 1, by go_num, by omega, rfl⟩
      case measure => simp [intOf]; omega
    · obtain rfl : k = K.length := by omega
      go_wp2
      go_ret
      exact ⟨rfl, F4.out.drewN _⟩
#print axioms same_any
end
end Go.Proofs.Ytckmjglomofooaa
