/-
  The fuse seat: how two spots are compared, and that Spots sorts by it.
-/
import Derived.Test.YtckmjglomofooaaFf
import Derived.Test.YtckmjglomofooaaSort
import Derived.Deep.RegionHeld3
namespace Go.Proofs.Ytckmjglomofooaa
open Go.RowKit

/-- cmp.Compare of whole numbers. -/
def cmpI (x y : Int) : Int := if x < y then -1 else if y < x then 1 else 0
theorem cmpI_bd (x y : Int) : -1 ≤ cmpI x y ∧ cmpI x y ≤ 1 := by unfold cmpI; split <;> (try split) <;> omega

theorem compare_int (x y : Int) (w : World) : Calls Try.prog 37 #[.int .i64 x, .int .i64 y] w fun e w' => e = .returned (.int .i64 (cmpI x y)) ∧ w = w' := by
  by_cases h1 : x < y
  · go_enter Try.func37, Try.ntmps37
    go_wp2
    go_ret
    exact ⟨ret_int (by unfold cmpI; rw [if_pos h1]), rfl⟩
  · by_cases h2 : y < x
    · go_enter Try.func37, Try.ntmps37
      go_wp2
      go_ret
      exact ⟨ret_int (by unfold cmpI; rw [if_neg (by omega), if_pos h2]), rfl⟩
    · go_enter Try.func37, Try.ntmps37
      go_wp2
      go_ret
      exact ⟨ret_int (by unfold cmpI; rw [if_neg (by omega), if_neg (by omega)]), rfl⟩

theorem compare_label (x y : Int) (w : World) : Calls Try.prog 38 #[.int .i64 x, .int .i64 y] w fun e w' => e = .returned (.int .i64 (cmpI x y)) ∧ w = w' := by
  by_cases h1 : x < y
  · go_enter Try.func38, Try.ntmps38
    go_wp2
    go_ret
    exact ⟨ret_int (by unfold cmpI; rw [if_pos h1]), rfl⟩
  · by_cases h2 : y < x
    · go_enter Try.func38, Try.ntmps38
      go_wp2
      go_ret
      exact ⟨ret_int (by unfold cmpI; rw [if_neg (by omega), if_pos h2]), rfl⟩
    · go_enter Try.func38, Try.ntmps38
      go_wp2
      go_ret
      exact ⟨ret_int (by unfold cmpI; rw [if_neg (by omega), if_neg (by omega)]), rfl⟩

/-- cmp.Or of two. -/
def orI (x y : Int) : Int := if x = 0 then y else x

theorem or_two (b : Nat) (x y : Int) (w : World) (h0 : w.cell? ⟨b, 0, none⟩ = some (.int .i64 x)) (h1 : w.cell? ⟨b, 1, none⟩ = some (.int .i64 y)) :
    Calls Try.prog 36 #[.slice (some ⟨b, 0, none⟩) 2 2] w fun e w' => e = .returned (.int .i64 (orI x y)) ∧ w = w' := by
  by_cases hx : x = 0
  · subst hx
    by_cases hy : y = 0
    · subst hy
      go_enter Try.func36, Try.ntmps36
      go_wp2
      refine wp_loop_rounds 3 ?_
      rw [rounds_succ]
      go_wp2
      rw [rounds_succ]
      go_wp2
      rw [rounds_succ]
      go_wp2
      go_ret
      exact ⟨rfl, rfl⟩
    · have hy' : (y != 0) = true := by simp [hy]
      go_enter Try.func36, Try.ntmps36
      go_wp2
      refine wp_loop_rounds 2 ?_
      rw [rounds_succ]
      go_wp2
      rw [rounds_succ]
      go_wp2
      go_ret
      exact ⟨rfl, rfl⟩
  · have hx' : (x != 0) = true := by simp [hx]
    go_enter Try.func36, Try.ntmps36
    go_wp2
    refine wp_loop_rounds 1 ?_
    rw [rounds_succ]
    go_wp2
    go_ret
    exact ⟨ret_int (by unfold orI; rw [if_neg hx]), rfl⟩

theorem or_new (o1 o2 : Obj) (x y : Int) (w : World) :
    Calls Try.prog 36 #[.slice (some ⟨w.heap.size + 1 + 1, 0, none⟩) 2 2] (((w.alloc o1).alloc o2).alloc (.cells #[.int .i64 x, .int .i64 y] 3)).drew fun e w' => e = .returned (.int .i64 (orI x y)) ∧ (((w.alloc o1).alloc o2).alloc (.cells #[.int .i64 x, .int .i64 y] 3)).drew = w' := by
  have hb : ((((w.alloc o1).alloc o2).alloc (.cells #[.int .i64 x, .int .i64 y] 3)).drew).heap[w.heap.size + 1 + 1]? = some (.cells #[.int .i64 x, .int .i64 y] 3 (0, 0)) := by
    have := heap_new ((w.alloc o1).alloc o2) (.cells #[.int .i64 x, .int .i64 y] 3)
    rw [World.size_alloc, World.size_alloc] at this
    exact this
  exact or_two _ _ _ _ (by rw [cell_of_block hb]; rfl) (by rw [cell_of_block hb]; rfl)

/-- How two spots are compared. -/
def cmpS (x y : Int × Int) : Int := orI (cmpI x.1 y.1) (cmpI x.2 y.2)

set_option maxHeartbeats 1000000 in
theorem spots_cmp (x y : Int × Int) (w : World) : Calls Try.prog 35 #[.agg #[.int .i64 x.1, .int .i64 x.2], .agg #[.int .i64 y.1, .int .i64 y.2]] w fun e w' => e = .returned (.int .i64 (cmpS x y)) ∧ w' = (((w.alloc (.cells #[.int .i64 x.1, .int .i64 x.2] 32)).alloc (.cells #[.int .i64 y.1, .int .i64 y.2] 32)).alloc (.cells #[.int .i64 (cmpI x.1 y.1), .int .i64 (cmpI x.2 y.2)] 3)).drew := by
  obtain ⟨a, b⟩ := x
  obtain ⟨c, d⟩ := y
  have k1 : ((w.alloc (.cells #[.int .i64 a, .int .i64 b] 32)).alloc (.cells #[.int .i64 c, .int .i64 d] 32)).cell? ⟨w.heap.size, 0, none⟩ = some (.int .i64 a) := by simp
  have k2 : ((w.alloc (.cells #[.int .i64 a, .int .i64 b] 32)).alloc (.cells #[.int .i64 c, .int .i64 d] 32)).cell? ⟨w.heap.size, 1, none⟩ = some (.int .i64 b) := by simp
  have k3 : ((w.alloc (.cells #[.int .i64 a, .int .i64 b] 32)).alloc (.cells #[.int .i64 c, .int .i64 d] 32)).cell? ⟨w.heap.size + 1, 0, none⟩ = some (.int .i64 c) := by simp
  have k4 : ((w.alloc (.cells #[.int .i64 a, .int .i64 b] 32)).alloc (.cells #[.int .i64 c, .int .i64 d] 32)).cell? ⟨w.heap.size + 1, 1, none⟩ = some (.int .i64 d) := by simp
  go_enter Try.func35, Try.ntmps35
  go_wp2_with fail
  go_region_held3 (fun w' => w'.cell? ⟨w.heap.size, 0, none⟩ = some (.int .i64 a) ∧ w'.cell? ⟨w.heap.size, 1, none⟩ = some (.int .i64 b) ∧ w'.cell? ⟨w.heap.size + 1, 0, none⟩ = some (.int .i64 c) ∧ w'.cell? ⟨w.heap.size + 1, 1, none⟩ = some (.int .i64 d)) (go_keep) (first | (go_at_call 37; refine (compare_int _ _ _).mono ?_; rintro e w' ⟨rfl, rfl⟩) | (go_at_call 38; refine (compare_label _ _ _).mono ?_; rintro e w' ⟨rfl, rfl⟩) | (go_at_call 36; refine (or_new _ _ _ _ _).mono ?_; rintro e w' ⟨rfl, rfl⟩))
  go_wp2
  go_ret
  exact ⟨rfl, rfl⟩

/-- A spot's two cells. -/
def encS (x : Int × Int) : List Value := [.int .i64 x.1, .int .i64 x.2]
/-- The cells of a list of spots. -/
def flat : List (Int × Int) → List Value
  | [] => []
  | x :: l => .int .i64 x.1 :: .int .i64 x.2 :: flat l

theorem flat_length : ∀ l : List (Int × Int), (flat l).length = l.length * 2
  | [] => rfl
  | x :: l => by simp [flat, flat_length l]; omega
theorem flat_append : ∀ l l' : List (Int × Int), flat (l ++ l') = flat l ++ flat l'
  | [], _ => rfl
  | x :: l, l' => by simp [flat, flat_append l l']
theorem flat_get : ∀ (l : List (Int × Int)) (i : Nat), (flat l)[2 * i]? = l[i]?.map (fun x => .int .i64 x.1) ∧ (flat l)[2 * i + 1]? = l[i]?.map (fun x => .int .i64 x.2)
  | [], i => by simp [flat]
  | x :: l, 0 => by simp [flat]
  | x :: l, i + 1 => by
    have := flat_get l i
    rw [show 2 * (i + 1) = 2 * i + 1 + 1 from by omega]
    simpa [flat] using this

theorem flatK_flat (l : List (Int × Int)) : (Sort.flatK encS 2 l.toArray).toList = flat l := by
  apply List.ext_getElem?
  intro t
  by_cases ht : t < l.length * 2
  · have h1 : t < (Sort.flatK encS 2 l.toArray).size := by rw [Sort.size_flatK]; simpa using ht
    have h2 := Sort.get_flatK encS 2 l.toArray t (by simpa using ht)
    rw [Array.getElem?_toList, Array.getElem?_eq_getElem h1, ← getElem!_pos _ t h1, h2]
    have hi : t / 2 < l.length := by omega
    have hg : l.toArray[t / 2]! = l[t / 2] := by rw [getElem!_pos _ _ (by simpa using hi)]; simp
    rw [hg]
    rcases Nat.mod_two_eq_zero_or_one t with h | h
    · rw [h]
      have := (flat_get l (t / 2)).1
      rw [show 2 * (t / 2) = t from by omega] at this
      rw [this, List.getElem?_eq_getElem hi]
      rfl
    · rw [h]
      have := (flat_get l (t / 2)).2
      rw [show 2 * (t / 2) + 1 = t from by omega] at this
      rw [this, List.getElem?_eq_getElem hi]
      rfl
  · rw [List.getElem?_eq_none (by rw [Array.length_toList, Sort.size_flatK]; simp; omega), List.getElem?_eq_none (by rw [flat_length]; omega)]

theorem ltS (x y : Int × Int) : ltOf cmpS x y = decide (x.1 < y.1 ∨ (x.1 = y.1 ∧ x.2 < y.2)) := by
  unfold ltOf cmpS orI cmpI
  by_cases h1 : x.1 < y.1
  · simp [h1]
  · by_cases h2 : y.1 < x.1
    · simp [h1, h2]; omega
    · have : x.1 = y.1 := by omega
      simp [this]
      by_cases h3 : x.2 < y.2
      · simp [h3]
      · by_cases h4 : y.2 < x.2 <;> simp [h3, h4]

theorem swoS : Sort.SWO (ltOf cmpS) where
  irrefl x := by rw [ltS]; simp
  trans x y z h1 h2 := by rw [ltS] at *; simp at *; omega
  ntrans x y z h1 h2 := by rw [ltS] at *; simp at *; omega

theorem totS (x y : Int × Int) (h1 : ltOf cmpS x y = false) (h2 : ltOf cmpS y x = false) : x = y := by
  rw [ltS] at *
  simp at *
  exact Prod.ext (by omega) (by omega)

/-- Spots in their order. -/
def sortS (l : List (Int × Int)) : List (Int × Int) := l.mergeSort (fun x y => !(ltOf cmpS y x))

theorem three_new (W : World) (o1 o2 o3 : Obj) : (((W.alloc o1).alloc o2).alloc o3).drew = Sort.grow (W.drewN 1) (#[o1] ++ #[o2] ++ #[o3]) := by
  rw [Sort.alloc_eq_grow, Sort.alloc_eq_grow, Sort.alloc_eq_grow, Sort.grow_grow, Sort.grow_grow]
  rfl

theorem cmpLays35 (blk off size : Nat) (w : World) : CmpLays Try.prog 35 #[] encS 2 cmpS blk off size w :=
  fun _ _ _ _ x y => (spots_cmp x y _).mono fun _ _ ⟨h1, h2⟩ => ⟨h1, 1, _, h2.trans (three_new _ _ _ _)⟩

theorem Try.isAgg32' (w : World) : (isAgg 32).run Try.prog w = .ok true w := by kernel_rfl
theorem Try.sizeOf32' (w : World) : (Go.sizeOf 32).run Try.prog w = .ok 2 w := by kernel_rfl

theorem sort_spots {w : World} {base g cap : Nat} (xs : List (Int × Int)) (hx : xs.length ≤ 100000) (h : w.ownsRow base 32 2 (.slice (some ⟨g, 0, none⟩) xs.length cap) xs.length (flat xs)) :
    Calls Try.prog 34 #[.slice (some ⟨g, 0, none⟩) xs.length cap, .func (.func 35) #[] #[]] w fun e w' => e = .returned (.tuple #[]) ∧ w'.ownsRow base 32 2 (.slice (some ⟨g, 0, none⟩) xs.length cap) xs.length (flat (sortS xs)) ∧ w.grownBy w' (some g) := by
  have eg : ∀ args w, (callFunc 35 args).run Try.prog w = .ok (.enter 35 args) w := enters_of Try.func35 (by kernel_rfl) rfl
  obtain ⟨g', cap', cur, e0, hb, hg, hn, hm, hs, ht⟩ : ∃ g' cap' cur, (Value.slice (some ⟨g, 0, none⟩) xs.length cap) = .slice (some ⟨g', 0, none⟩) xs.length cap' ∧ base ≤ g' ∧ w.heap[g']? = some (.cells cur 32 (0, 0)) ∧ xs.length ≤ cap' ∧ cap' ≤ maxLen ∧ cur.size = cap' * 2 ∧ cur.toList.take (xs.length * 2) = flat xs := by
    rcases h.2 with ⟨e0, _⟩ | h
    · cases e0
    · exact h
  simp only [Value.slice.injEq, Option.some.injEq, Addr.mk.injEq, and_true, true_and] at e0
  obtain ⟨rfl, rfl⟩ := e0
  have hH : Sort.HoldsK encS 2 w g 0 xs.toArray := by
    intro j hj
    rw [Sort.size_flatK] at hj
    have hj' : j < xs.length * 2 := by simpa using hj
    have h1 : j < (Sort.flatK encS 2 xs.toArray).size := by rw [Sort.size_flatK]; exact hj
    rw [Nat.zero_add]
    refine ⟨?_, free_of_block hg j⟩
    rw [cell_of_block hg, ← Array.getElem?_toList]
    have e1 : (cur.toList.take (xs.length * 2))[j]? = (flat xs)[j]? := by rw [ht]
    rw [List.getElem?_take_of_lt hj'] at e1
    rw [e1, ← flatK_flat, Array.getElem?_toList, Array.getElem?_eq_getElem h1, getElem!_pos _ j h1]
    rfl
  have hsz : xs.length < 4611686018427387904 := by omega
  have hcon := AnyQ.slices_SortFunc_total Try.sortSpot 2 Try.isAgg32' Try.sizeOf32' encS (fun _ => rfl) (fun x v hv => by simp [encS] at hv; rcases hv with rfl | rfl <;> rfl) cmpS swoS 35 #[] g 0 cap xs.toArray w eg (cmpLays35 g 0 _ w) hH (lt_of_some hg) (by simpa using hsz) totS
  change Calls Try.prog 34 _ _ _ at hcon
  refine hcon.mono ?_
  rintro e w' ⟨rfl, n, os, rfl⟩
  have hlt := lt_of_some hg
  have hlen : (sortS xs).length = xs.length := List.length_mergeSort xs
  have e1 : (sortWorldK encS 2 w g 0 n (sortS xs).toArray os).heap[g]? = some (.cells (Sort.putCells id 0 (Sort.flatK encS 2 (sortS xs).toArray) cur) 32 (0, 0)) := by
    show (Sort.grow (Sort.putRow id (Sort.ahead w n) g 0 (Sort.flatK encS 2 (sortS xs).toArray)) os).heap[g]? = _
    rw [Sort.heap_grow_old _ _ (by simpa using hlt)]
    simp [Sort.putRow, Sort.mapBlock, Sort.ahead, Array.getElem?_modify, hg, Sort.onCells]
  refine ⟨rfl, ⟨by rw [flat_length, hlen], .inr ⟨g, cap, _, rfl, hb, e1, hn, hm, by simp [Sort.putCells, hs], ?_⟩⟩, ⟨rfl, rfl, rfl, by simp [sortWorldK, Sort.grow, Sort.putRowK, Sort.ahead], fun k hk hne => ?_⟩⟩
  · apply List.ext_getElem?
    intro j
    by_cases hj : j < xs.length * 2
    · have hjc : j < cur.size := by omega
      have h1 : j < (Sort.flatK encS 2 (sortS xs).toArray).size := by rw [Sort.size_flatK]; simpa [hlen] using hj
      rw [List.getElem?_take_of_lt hj, ← flatK_flat, Array.getElem?_toList, Array.getElem?_toList, Array.getElem?_eq_getElem h1]
      simp only [Sort.putCells, Array.getElem?_mapIdx, Array.getElem?_eq_getElem hjc, Option.map_some]
      rw [if_pos ⟨by omega, by omega⟩, Nat.sub_zero, getElem!_pos _ j h1]
      rfl
    · rw [List.getElem?_take_eq_none (by omega), List.getElem?_eq_none (by rw [flat_length, hlen]; omega)]
  · show (Sort.grow (Sort.putRow id (Sort.ahead w n) g 0 (Sort.flatK encS 2 (sortS xs).toArray)) os).heap[k]? = _
    rw [Sort.heap_grow_old _ _ (by simpa using hk)]
    have : g ≠ k := fun e => hne (by rw [e])
    simp [Sort.putRow, Sort.mapBlock, Sort.ahead, Array.getElem?_modify, this]

/-- The sort at whatever slice of the call's own. -/
theorem sort_any {w : World} {base : Nat} {v : Value} (xs : List (Int × Int)) (hx : xs.length ≤ 100000) (h : w.ownsRow base 32 2 v xs.length (flat xs)) :
    Calls Try.prog 34 #[v, .func (.func 35) #[] #[]] w fun e w' => e = .returned (.tuple #[]) ∧ w'.ownsRow base 32 2 v xs.length (flat (sortS xs)) ∧ w.grownBy w' v.ownBlock := by
  rcases h.2 with ⟨rfl, h0⟩ | ⟨g, cap, cur, rfl, _⟩
  · have hxs : xs = [] := List.length_eq_zero_iff.1 h0
    subst hxs
    have hcon := AnyF.slices_SortFunc_none Try.sortSpot none 0 (.func (.func 35) #[] #[]) w
    change Calls Try.prog 34 _ _ _ at hcon
    refine hcon.mono ?_
    rintro e w' ⟨rfl, rfl⟩
    have : sortS [] = [] := by simp [sortS]
    rw [this]
    exact ⟨rfl, h, ⟨rfl, rfl, rfl, Nat.le_refl _, fun _ _ _ => rfl⟩⟩
  · exact sort_spots xs hx h
end Go.Proofs.Ytckmjglomofooaa
