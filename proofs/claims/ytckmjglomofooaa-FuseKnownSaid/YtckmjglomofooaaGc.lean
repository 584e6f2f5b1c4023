/-
  The fuse seat: the reference box: at.
-/
import Derived.Test.YtckmjglomofooaaGb
import Derived.BigQuiet
import Derived.LoopTactic
namespace Go.Proofs.Ytckmjglomofooaa
open Go.RowKit

theorem flatR_get (L : List Rfz) (k : Nat) (x : Rfz) (hk : L[k]? = some x) (j : Nat) (hj : j < 5) : (flatR L)[k * 5 + j]? = (encR x)[j]? := by
  have h1 := flatR_drop L k
  obtain ⟨hlt, he⟩ := List.getElem?_eq_some_iff.1 hk
  rw [List.drop_eq_getElem_cons hlt, he] at h1
  have h2 : (flatR L)[k * 5 + j]? = ((flatR L).drop (k * 5))[j]? := by rw [List.getElem?_drop]
  rw [h2, h1]
  show (encR x ++ flatR (L.drop (k + 1)))[j]? = _
  rw [List.getElem?_append_left (by simp [encR]; omega)]

/-- What the box's slice is, and where its fuses' cells lie. -/
theorem RBox.slice {w : World} {m : Nat} {v : Value} {most rest now : Int} {L : List Rfz} (h : RBox w m v most rest now L) :
    ∃ p cap, v = .slice p L.length cap ∧ L.length ≤ 9223372036854775807 ∧ (L = [] ∨ ∃ g, p = some ⟨g, 0, none⟩ ∧ g ≠ m ∧ g < w.heap.size ∧ ∀ k x, L[k]? = some x → ∀ j u, (encR x)[j]? = some u → w.cell? ⟨g, 0 + k * 5 + j, none⟩ = some u) := by
  rcases h.row.2 with ⟨rfl, h0⟩ | ⟨g, cap, cur, rfl, _, hg, hn, hm, hs, ht⟩
  · have : L = [] := List.length_eq_zero_iff.1 h0
    subst this
    exact ⟨none, 0, rfl, by simp, .inl rfl⟩
  · refine ⟨some ⟨g, 0, none⟩, cap, rfl, by unfold maxLen at hm; omega, .inr ⟨g, rfl, fun e => h.apart (by rw [e]; rfl), lt_of_some hg, fun k x hk j u hu => ?_⟩⟩
    have hj : j < 5 := by
      have := (List.getElem?_eq_some_iff.1 hu).1
      simpa [encR] using this
    have hk' := (List.getElem?_eq_some_iff.1 hk).1
    have h1 := flatR_get L k x hk j hj
    rw [hu] at h1
    rw [← ht, List.getElem?_take_of_lt (by omega)] at h1
    rw [cell_of_block hg, Nat.zero_add]
    simpa using h1

set_option maxRecDepth 100000 in
set_option maxHeartbeats 600000 in
theorem rat_any {w : World} {m : Nat} {v : Value} {most rest now : Int} {L : List Rfz} (h : RBox w m v most rest now L) {st : Int → Int → Int} (hst : ROf L st) (d l : Int) :
    Calls Try.prog 28 #[.pointer (some ⟨m, 0, none⟩), .agg #[.int .i64 d, .int .i64 l]] w fun e w' => e = .returned (.agg #[.int .i64 d, .int .i64 l, .int .i64 (stS (st d l)), .int .i64 (stF (st d l)), .int .i64 (stU (st d l))]) ∧ Fr w w' (fun _ => False) := by
  obtain ⟨p, cap, rfl, hlen, hrow⟩ := h.slice
  have hm := lt_of_some h.box
  have c0 : w.cell? ⟨m, 3, none⟩ = some (.slice p L.length cap) := by rw [cell_of_block h.box]; rfl
  have HR := Lib.hid hrow
  have HST := Lib.hid hst
  clear hrow hst
  go_enter Try.func28, Try.ntmps28
  go_wp2_with fail
  go_loopw [5] (fun iv wr => ∃ k n : Nat, iv = .int .i64 k ∧ k ≤ L.length ∧ wr = ((w.alloc (.cells #[.int .i64 d, .int .i64 l] 32)).alloc (.cells #[.int .i64 0, .int .i64 0, .int .i64 0, .int .i64 0, .int .i64 0] 77)).drewN n ∧ Hid (∀ j, j < k → ∀ x, L[j]? = some x → ¬ (x.d = d ∧ x.l = l))) (fun iv _ => L.length - (intOf iv).toNat)
  case atStart => exact ⟨0, 0, rfl, by omega, rfl, Lib.hid (fun j hj => by omega)⟩
  case round =>
    obtain ⟨k, n, rfl, hk, rfl, hno⟩ := hrel
    by_cases hl : k < L.length
    · have hl2 : (k : Int) < (L.length : Int) := by omega
      obtain ⟨x, hx⟩ : ∃ x, L[k]? = some x := ⟨_, List.getElem?_eq_getElem hl⟩
      rcases HR.out with rfl | ⟨g, rfl, hgm, hg, hcells⟩
      · simp at hl
      have x0 : w.cell? ⟨g, k * 5, none⟩ = some (.int .i64 x.d) := by simpa using hcells k x hx 0 _ rfl
      have x1 : w.cell? ⟨g, k * 5 + 1, none⟩ = some (.int .i64 x.l) := by simpa using hcells k x hx 1 _ rfl
      have x2 : w.cell? ⟨g, k * 5 + 2, none⟩ = some (.int .i64 (stS x.n)) := by simpa using hcells k x hx 2 _ rfl
      have x3 : w.cell? ⟨g, k * 5 + 3, none⟩ = some (.int .i64 (stF x.n)) := by simpa using hcells k x hx 3 _ rfl
      have x4 : w.cell? ⟨g, k * 5 + 4, none⟩ = some (.int .i64 (stU x.n)) := by simpa using hcells k x hx 4 _ rfl
      have HX := Lib.hid hx
      clear hcells hx
      go_wp2_with fail
      by_cases e1 : x.d = d
      · by_cases e2 : x.l = l
        · rw [e1] at x0
          rw [e2] at x1
          go_region_held3 (fun wx => wx.cell? ⟨m, 3, none⟩ = some (.slice (some ⟨g, 0, none⟩) L.length cap) ∧ wx.cell? ⟨g, k * 5, none⟩ = some (.int .i64 d) ∧ wx.cell? ⟨g, k * 5 + 1, none⟩ = some (.int .i64 l) ∧ wx.cell? ⟨w.heap.size, 0, none⟩ = some (.int .i64 d) ∧ wx.cell? ⟨w.heap.size, 1, none⟩ = some (.int .i64 l)) (go_keep) (fail)
          go_wp2_with fail
          have hn : st d l = x.n := by have := HST.out.of_mem (List.mem_of_getElem? HX.out); rw [e1, e2] at this; exact this
          rw [hn]
          refine bodyPost_ret (v := .agg #[.int .i64 d, .int .i64 l, .int .i64 (stS x.n), .int .i64 (stF x.n), .int .i64 (stU x.n)]) ?res rfl ⟨rfl, ?fr⟩
          case res => simp [results, Try.results28, go_sem]
          refine Fr.setCell (Fr.setCell (Fr.setCell (Fr.setCell (Fr.setCell ((((Fr.refl w _).alloc _).alloc _).drewN _) _ _ ?_) _ _ ?_) _ _ ?_) _ _ ?_) _ _ ?_ <;> simp
        · have e3 : (x.l == l) = false := by simpa using e2
          rw [e1] at x0
          go_region_held3 (fun wx => wx.cell? ⟨m, 3, none⟩ = some (.slice (some ⟨g, 0, none⟩) L.length cap) ∧ wx.cell? ⟨g, k * 5, none⟩ = some (.int .i64 d) ∧ wx.cell? ⟨g, k * 5 + 1, none⟩ = some (.int .i64 x.l) ∧ wx.cell? ⟨w.heap.size, 0, none⟩ = some (.int .i64 d) ∧ wx.cell? ⟨w.heap.size, 1, none⟩ = some (.int .i64 l)) (go_keep) (fail)
          go_wp2_with fail
          go_roundw
          case rel =>
            refine ⟨k + 1, n + 1, by go_num, by omega, rfl, Lib.hid (fun j hj y hy => ?_)⟩
            by_cases hjk : j = k
            · subst hjk
              rw [HX.out] at hy
              cases hy
              exact fun h => e2 h.2
            · exact hno.out j (by omega) y hy
          case measure => simp [intOf]; omega
      · have e3 : (x.d == d) = false := by simpa using e1
        go_region_held3 (fun wx => wx.cell? ⟨m, 3, none⟩ = some (.slice (some ⟨g, 0, none⟩) L.length cap) ∧ wx.cell? ⟨g, k * 5, none⟩ = some (.int .i64 x.d) ∧ wx.cell? ⟨g, k * 5 + 1, none⟩ = some (.int .i64 x.l) ∧ wx.cell? ⟨w.heap.size, 0, none⟩ = some (.int .i64 d) ∧ wx.cell? ⟨w.heap.size, 1, none⟩ = some (.int .i64 l)) (go_keep) (fail)
        go_wp2_with fail
        go_roundw
        case rel =>
          refine ⟨k + 1, n + 1, by go_num, by omega, rfl, Lib.hid (fun j hj y hy => ?_)⟩
          by_cases hjk : j = k
          · subst hjk
            rw [HX.out] at hy
            cases hy
            exact fun h => e1 h.1
          · exact hno.out j (by omega) y hy
        case measure => simp [intOf]; omega
    · have hk2 : k = L.length := by omega
      subst hk2
      have hn : st d l = 0 := HST.out.of_none (fun y hy => by
        obtain ⟨j, hj, hy'⟩ := List.getElem_of_mem hy
        exact hno.out j hj y (by rw [List.getElem?_eq_getElem hj, hy']))
      clear hno
      go_wp2_with fail
      rw [hn]
      refine bodyPost_ret (v := .agg #[.int .i64 d, .int .i64 l, .int .i64 0, .int .i64 0, .int .i64 0]) ?res2 rfl ⟨by simp [stS, stF, stU], ?fr2⟩
      case res2 => simp [results, Try.results28, go_sem]
      refine Fr.setCell (Fr.setCell (Fr.setCell (Fr.setCell (Fr.setCell ((((Fr.refl w _).alloc _).alloc _).drewN _) _ _ ?_) _ _ ?_) _ _ ?_) _ _ ?_) _ _ ?_ <;> simp
#print axioms rat_any
end Go.Proofs.Ytckmjglomofooaa
