/-
  The fuse seat: Spots: those whose number is not nought, sorted, whatever the order in which the map gives them.
-/
import Derived.Test.YtckmjglomofooaaFg
import Derived.Maps.Range
import Derived.Maps.RangeWalk
import Derived.Maps.AppendAt
namespace Go.Proofs.Ytckmjglomofooaa
open Go.RowKit

/-! ### plain: what is left of a list that is gone through in whatever order -/
theorem perm_strike {α : Type} {g : α → Nat} : ∀ {R : List α}, (R.map g).Nodup → ∀ {p : α}, p ∈ R → R.Perm (p :: R.filter (fun q => decide (g q ≠ g p)))
  | [], _, _, h => by cases h
  | a :: R, hn, p, hp => by
    simp only [List.map_cons, List.nodup_cons] at hn
    obtain ⟨h1, h2⟩ := hn
    rcases List.mem_cons.1 hp with rfl | hp
    · rw [List.filter_cons_of_neg (by simp)]
      rw [List.filter_eq_self.2]
      intro q hq
      have : g q ≠ g p := fun e => h1 (List.mem_map.2 ⟨q, hq, e⟩)
      simpa using this
    · have hne : g a ≠ g p := fun e => h1 (List.mem_map.2 ⟨p, hp, e.symm⟩)
      rw [List.filter_cons_of_pos (by simpa using hne)]
      exact ((perm_strike h2 hp).cons a).trans (List.Perm.swap p a _)

def restOf (L : List (MapEntry × Ent)) (seen : Array Nat) : List (MapEntry × Ent) := L.filter (fun p => !seen.contains p.1.born)

theorem contains_push (seen : Array Nat) (x y : Nat) : (seen.push x).contains y = (seen.contains y || decide (y = x)) := by
  rw [Bool.eq_iff_iff]
  simp [Array.mem_push]

theorem restOf_push {L : List (MapEntry × Ent)} (hn : (L.map (fun p => p.1.born)).Nodup) {seen : Array Nat} {p : MapEntry × Ent} (hp : p ∈ restOf L seen) : (restOf L seen).Perm (p :: restOf L (seen.push p.1.born)) := by
  have h1 : ((restOf L seen).map (fun p => p.1.born)).Nodup := (List.Sublist.map _ List.filter_sublist).nodup hn
  refine (perm_strike (g := fun p => p.1.born) h1 hp).trans ?_
  refine List.Perm.cons p (List.Perm.of_eq ?_)
  unfold restOf
  rw [List.filter_filter]
  apply List.filter_congr
  intro q _
  rw [contains_push]
  simp only [Bool.not_or]
  rw [Bool.and_comm]
  congr 1
  simp

/-- An entry's spot. -/
def spOf (p : MapEntry × Ent) : Int × Int := (p.2.d, p.2.l)
def nzOf (p : MapEntry × Ent) : Bool := decide (p.2.n ≠ 0)
/-- The spots of a list of entries that are not nought. -/
def got (L : List (MapEntry × Ent)) : List (Int × Int) := (L.filter nzOf).map spOf

theorem got_cons_yes {p : MapEntry × Ent} (L : List (MapEntry × Ent)) (h : p.2.n ≠ 0) : got (p :: L) = spOf p :: got L := by
  unfold got
  rw [List.filter_cons_of_pos (by simpa [nzOf] using h), List.map_cons]
theorem got_cons_no {p : MapEntry × Ent} (L : List (MapEntry × Ent)) (h : p.2.n = 0) : got (p :: L) = got L := by
  unfold got
  rw [List.filter_cons_of_neg (by simpa [nzOf] using h)]
theorem got_perm {L L' : List (MapEntry × Ent)} (h : L.Perm L') : (got L).Perm (got L') := (h.filter _).map _

theorem got_length (L : List (MapEntry × Ent)) : (got L).length ≤ L.length := by
  unfold got
  rw [List.length_map]
  exact List.length_filter_le _ _

/-! ### how many entries there may be -/
theorem nodup_lt_length : ∀ (N : Nat) (l : List Nat), l.Nodup → (∀ x ∈ l, x < N) → l.length ≤ N
  | 0, l, _, h => by
    cases l with
    | nil => simp
    | cons a l => exact absurd (h a (by simp)) (by omega)
  | N + 1, l, hn, h => by
    have h1 := nodup_lt_length N (l.erase N) (hn.erase N) (fun x hx => by
      have hm := (hn.mem_erase_iff).1 hx
      have := h x hm.2
      omega)
    have h2 : l.length ≤ (l.erase N).length + 1 := by
      rw [List.length_erase]
      split <;> omega
    omega

theorem ents_length {m : List Ent} (hn : (m.map (fun e => (e.d, e.l))).Nodup) (hok : ∀ e ∈ m, e.ok) : m.length ≤ 10010 := by
  have h := nodup_lt_length 10010 (m.map (fun e => (e.d * 10 + e.l).toNat)) ?_ ?_
  · simpa using h
  · rw [List.Nodup, List.pairwise_map] at hn ⊢
    refine List.Pairwise.imp_of_mem ?_ hn
    intro a b ha hb hne e
    obtain ⟨a1, a2, a3, a4, _⟩ := hok a ha
    obtain ⟨b1, b2, b3, b4, _⟩ := hok b hb
    exact hne (Prod.ext (by dsimp only; omega) (by dsimp only; omega))
  · intro x hx
    obtain ⟨e, he, rfl⟩ := List.mem_map.1 hx
    obtain ⟨a1, a2, a3, a4, _⟩ := hok e he
    omega

theorem Try.info32 : (Try.prog.info? 32).map (fun i => (i.zero, i.size, i.bytes)) = some (some (.agg #[.int .i64 0, .int .i64 0]), 2, 16) := by kernel_rfl

theorem row_ne_iter {w : World} {base : Nat} {e : TypeId} {size : Nat} {v : Value} {n : Nat} {xs : List Value} (h : w.ownsRow base e size v n xs) {r : Nat} {a : Option Nat} {b : Nat} {c : Array Nat} {d : Nat} (hr : w.heap[r]? = some (.mapIter a b c d)) : v.ownBlock ≠ some r := by
  intro e0
  rcases h.2 with ⟨rfl, _⟩ | ⟨g, cap, cur, rfl, _, hg, _⟩
  · cases e0
  · simp only [Value.ownBlock, Option.some.injEq] at e0
    subst e0
    rw [hr] at hg
    cases hg

theorem addr_add (b j : Nat) : (⟨b, 0, none⟩ : Addr).add j = ⟨b, j, none⟩ := by
  unfold Addr.add
  split
  · rename_i h; subst h; rfl
  · simp

/-- What lies behind Spots. -/
def SpotsPost (w : World) (m : List Ent) (e : Ending) (w' : World) : Prop :=
  ∃ v l, e = .returned v ∧ l = sortS ((m.filter (fun x => decide (x.n ≠ 0))).map (fun x => (x.d, x.l))) ∧ w'.ownsRow w.heap.size 32 2 v l.length (flat l) ∧ Below w.heap.size w w'

/-- The loop's relation: v holds what has come, rest is still to come. -/
structure SpRel (w : World) (bm : Nat) (L : List (MapEntry × Ent)) (clock : Nat) (v : Value) (wr : World) (acc : List (Int × Int)) (seen : Array Nat) (c0 : Nat) : Prop where
  iter : wr.heap[w.heap.size]? = some (.mapIter (some bm) clock seen c0)
  later : clock ≤ c0
  row : wr.ownsRow w.heap.size 32 2 v acc.length (flat acc)
  perm : (acc ++ got (restOf L seen)).Perm (got L)
  below : Below w.heap.size w wr

theorem SpRel.len {w : World} {bm : Nat} {L : List (MapEntry × Ent)} {clock : Nat} {v : Value} {wr : World} {acc : List (Int × Int)} {seen : Array Nat} {c0 : Nat} (h : SpRel w bm L clock v wr acc seen c0) (hL : L.length ≤ 10010) : acc.length ≤ 10010 := by
  have h1 := h.perm.length_eq
  rw [List.length_append] at h1
  have := got_length L
  omega

/-- One entry has come: the iterator has moved on. -/
theorem SpRel.moved {w : World} {bm : Nat} {L : List (MapEntry × Ent)} {clock : Nat} {v : Value} {wr : World} {acc : List (Int × Int)} {seen : Array Nat} {c0 : Nat} (h : SpRel w bm L clock v wr acc seen c0)
    (hn : (L.map (fun p => p.1.born)).Nodup) {p : MapEntry × Ent} (hp : p ∈ restOf L seen) {w1 : World} (hw1 : w1 = wr ∨ w1 = wr.drew) :
    (ChangeMaps.setBlock w1 w.heap.size (.mapIter (some bm) clock (seen.push p.1.born) clock)).heap[w.heap.size]? = some (.mapIter (some bm) clock (seen.push p.1.born) clock) ∧
    (ChangeMaps.setBlock w1 w.heap.size (.mapIter (some bm) clock (seen.push p.1.born) clock)).ownsRow w.heap.size 32 2 v acc.length (flat acc) ∧
    (acc ++ got (p :: restOf L (seen.push p.1.born))).Perm (got L) ∧
    Below w.heap.size w (ChangeMaps.setBlock w1 w.heap.size (.mapIter (some bm) clock (seen.push p.1.born) clock)) ∧
    (ChangeMaps.setBlock w1 w.heap.size (.mapIter (some bm) clock (seen.push p.1.born) clock)).heap.size = wr.heap.size := by
  have hg : wr.grownBy (ChangeMaps.setBlock w1 w.heap.size (.mapIter (some bm) clock (seen.push p.1.born) clock)) (some w.heap.size) := by
    have hset := MapKept.heap_set (o' := .mapIter (some bm) clock (seen.push p.1.born) clock) h.iter
    rcases hw1 with rfl | rfl <;> exact ⟨rfl, rfl, rfl, by simp [ChangeMaps.setBlock], fun i _ hi => hset.2 i (fun e1 => hi (by rw [e1]))⟩
  have h1 : (ChangeMaps.setBlock w1 w.heap.size (.mapIter (some bm) clock (seen.push p.1.born) clock)).heap[w.heap.size]? = some (.mapIter (some bm) clock (seen.push p.1.born) clock) := by
    have hset := MapKept.heap_set (o' := .mapIter (some bm) clock (seen.push p.1.born) clock) h.iter
    rcases hw1 with rfl | rfl <;> exact hset.1
  refine ⟨h1, h.row.kept hg (.inr (row_ne_iter h.row h.iter)), ?_, ?_, ?_⟩
  · exact ((got_perm (restOf_push hn hp)).symm.append_left acc).trans h.perm
  · exact h.below.grown hg h.below.size (fun k e => by cases e; exact Nat.le_refl _)
  · rcases hw1 with rfl | rfl <;> simp [ChangeMaps.setBlock]

theorem zip_fst {es : List MapEntry} {m : List Ent} (hl : es.length = m.length) : (es.zip m).map (fun p => p.1) = es := List.map_fst_zip (by omega)
theorem zip_snd {es : List MapEntry} {m : List Ent} (hl : es.length = m.length) : (es.zip m).map (fun p => p.2) = m := List.map_snd_zip (by omega)

theorem zip_mem {es : List MapEntry} {m : List Ent} (hm : es.map (fun x => (x.key, x.val)) = m.map (fun e => (spotV e.d e.l, Value.pointer (some ⟨e.f, 0, none⟩)))) {p : MapEntry × Ent} (hp : p ∈ es.zip m) : p.1.key = spotV p.2.d p.2.l ∧ p.1.val = .pointer (some ⟨p.2.f, 0, none⟩) ∧ p.2 ∈ m := by
  obtain ⟨i, hi, he⟩ := List.getElem_of_mem hp
  have h1 : i < es.length := by rw [List.length_zip] at hi; omega
  have h2 : i < m.length := by rw [List.length_zip] at hi; omega
  rw [List.getElem_zip] at he
  subst he
  have := congrArg (fun l => l[i]?) hm
  simp only [List.getElem?_map, List.getElem?_eq_getElem h1, List.getElem?_eq_getElem h2, Option.map_some, Option.some.injEq, Prod.mk.injEq] at this
  exact ⟨this.1, this.2, List.getElem_mem h2⟩

theorem rest_of_left {es : Array MapEntry} {m : List Ent} (hl : es.toList.length = m.length) {seen : Array Nat} {x : MapEntry} (hx : x ∈ (leftOf es seen).toList) : ∃ p ∈ restOf (es.toList.zip m) seen, p.1 = x := by
  obtain ⟨h1, h2⟩ := mem_left hx
  rw [← zip_fst hl] at h1
  obtain ⟨p, hp, rfl⟩ := List.mem_map.1 h1
  exact ⟨p, List.mem_filter.2 ⟨hp, by rw [h2]; rfl⟩, rfl⟩

theorem rest_none {es : Array MapEntry} {m : List Ent} (hl : es.toList.length = m.length) {seen : Array Nat} (h0 : (leftOf es seen).size = 0) : restOf (es.toList.zip m) seen = [] := by
  unfold restOf
  rw [List.filter_eq_nil_iff]
  intro p hp
  have : p.1 ∈ es.toList := by rw [← zip_fst hl]; exact List.mem_map.2 ⟨p, hp, rfl⟩
  rw [all_seen es seen h0 p.1 this]
  simp

theorem got_zip {es : List MapEntry} {m : List Ent} (hl : es.length = m.length) : got (es.zip m) = (m.filter (fun x => decide (x.n ≠ 0))).map (fun x => (x.d, x.l)) := by
  have e2 := zip_snd hl
  unfold got
  have : (m.filter (fun x => decide (x.n ≠ 0))) = ((es.zip m).filter nzOf).map (fun p => p.2) := by
    conv => lhs; rw [← e2]
    rw [List.filter_map]
    rfl
  rw [this, List.map_map]
  rfl

theorem sortS_perm {l l' : List (Int × Int)} (h : l.Perm l') : sortS l = sortS l' := by
  unfold sortS
  refine List.Perm.eq_of_pairwise (le := fun x y => (!ltOf cmpS y x) = true) ?_ ?_ ?_ ((List.mergeSort_perm _ _).trans (h.trans (List.mergeSort_perm _ _).symm))
  · intro a b _ _ h1 h2
    simp at h1 h2
    exact totS a b h2 h1
  · exact List.pairwise_mergeSort (fun a b c h1 h2 => by
      simp only [Bool.not_eq_true'] at *
      exact swoS.ntrans c b a h2 h1) (fun a b => by
      cases h1 : ltOf cmpS b a
      · simp
      · cases h2 : ltOf cmpS a b
        · simp
        · have := swoS.trans a b a h2 h1
          rw [swoS.irrefl] at this
          cases this) _
  · exact List.pairwise_mergeSort (fun a b c h1 h2 => by
      simp only [Bool.not_eq_true'] at *
      exact swoS.ntrans c b a h2 h1) (fun a b => by
      cases h1 : ltOf cmpS b a
      · simp
      · cases h2 : ltOf cmpS a b
        · simp
        · have := swoS.trans a b a h2 h1
          rw [swoS.irrefl] at this
          cases this) _

set_option maxRecDepth 100000 in
set_option maxHeartbeats 1000000 in
theorem spots_box {w : World} {b bm : Nat} {most rest now : Int} {m : List Ent} (h : FBox w b most rest now bm m) :
    Calls Try.prog 22 #[.pointer (some ⟨b, 0, none⟩)] w (SpotsPost w m) := by
  obtain ⟨es, clock, hb, hs, hm⟩ := h.map
  have hlb := lt_of_some hb
  have hlbox := lt_of_some h.box
  have c3 : w.cell? ⟨b, 3, none⟩ = some (.map (some bm)) := by rw [cell_of_block h.box]; rfl
  have hrange := run_range_map (P := Try.prog) w 66 32 69 bm es clock Try.underlying66 hb
  go_enter Try.func22, Try.ntmps22
  go_wp2_with (first | (go_at_call 32; refine (none_box h).mono ?_; rintro e w' ⟨rfl, rfl⟩))
  have hl : es.toList.length = m.length := by have := congrArg List.length hm; simpa using this
  have hnb : ((es.toList.zip m).map (fun p => p.1.born)).Nodup := by
    have e1 : (es.toList.zip m).map (fun p => p.1.born) = es.toList.map (·.born) := by
      conv => rhs; rw [← zip_fst hl]
      rw [List.map_map]
      rfl
    rw [e1]
    exact hs.2.1
  have hold : ∀ x ∈ es.toList, x.born < clock := hs.1
  have hml := ents_length h.map.keys_nodup h.ok
  have hLl : (es.toList.zip m).length ≤ 10010 := by rw [List.length_zip]; omega
  obtain ⟨i0, hi, hz0, hz1, hz2⟩ := info_parts Try.info32
  have HM := Lib.hid hm
  have HL := Lib.hid hl
  have HN := Lib.hid hnb
  have HO := Lib.hid hold
  have HS := Lib.hid hs
  have HB := Lib.hid hb
  have HI := Lib.hid hi
  have HZ0 := Lib.hid hz0
  have HZ1 := Lib.hid hz1
  have HZ2 := Lib.hid hz2
  clear hm hl hnb hold hs hb hrange c3 hi hz0 hz1 hz2
  go_loopw [2] (fun v wr => ∃ acc seen c0, SpRel w bm (es.toList.zip m) clock v wr acc seen c0) (fun _ wr => wr.rangeLeft bm w.heap.size)
  case atStart =>
    refine ⟨[], #[], clock, heap_new _ _, Nat.le_refl _, World.ownsRow_nil _ _ _ _, ?_, (Below.refl _ _).alloc (Nat.le_refl _) _⟩
    have : restOf (es.toList.zip m) #[] = es.toList.zip m := by
      unfold restOf
      rw [List.filter_eq_self]
      simp
    rw [this]
    exact List.Perm.refl _
  case round =>
    obtain ⟨acc, seen, c0, R⟩ := hrel
    have hacc := R.len hLl
    have hbr : wr.heap[bm]? = some (.map es clock) := (R.below.block bm hlb).trans HB.out
    rcases run_next_at (P := Try.prog) wr 0 w.heap.size bm clock c0 seen es clock R.iter hbr HO.out R.later with ⟨h0, hrun⟩ | ⟨x, hx, w1, hw1, hrun⟩
    · have H0 := Lib.hid h0
      have HR := Lib.hid hbr
      clear h0 hbr
      go_wp2_with fail
      refine (sort_any acc (by omega) R.row).mono ?_
      rintro e w2 ⟨rfl, hrow, hgr⟩
      have hB2 : Below w.heap.size w w2 := R.below.grown hgr R.below.size (fun k hk => (R.row.lt k hk).1)
      have hperm : acc.Perm ((m.filter (fun x => decide (x.n ≠ 0))).map (fun x => (x.d, x.l))) := by
        have := R.perm
        rw [rest_none HL.out H0.out, got_zip HL.out] at this
        simpa [got] using this
      have hsp : sortS acc = sortS ((m.filter (fun x => decide (x.n ≠ 0))).map (fun x => (x.d, x.l))) := sortS_perm hperm
      have hlen : acc.length = (sortS acc).length := (List.length_mergeSort acc).symm
      have HP := Lib.hid hsp
      have HE := Lib.hid hlen
      have HR2 := Lib.hid hrow
      clear hsp hlen hrow hgr hperm
      go_wp2
      go_ret
      refine ⟨_, _, rfl, rfl, ?_, hB2⟩
      have := HR2.out
      rw [HE.out] at this
      rw [← HP.out]
      exact this
    · obtain ⟨p, hp, rfl⟩ := rest_of_left HL.out hx
      obtain ⟨hk, hv, hpm⟩ := zip_mem HM.out (List.mem_filter.1 hp).1
      obtain ⟨k1, k2, k3, k4, k5⟩ := R.moved HN.out hp hw1
      have hlt := left_shrinks es seen p.1 hx
      have hen := run_entry_at (P := Try.prog) _ w.heap.size bm clock seen es clock p.1 k1 ((k4.block bm hlb).trans HB.out) (mem_left hx).1 HS.out.2.1
      obtain ⟨W1, hW1⟩ : ∃ W1, ChangeMaps.setBlock w1 w.heap.size (.mapIter (some bm) clock (seen.push p.1.born) clock) = W1 := ⟨_, rfl⟩
      rw [hW1] at k1 k2 k4 k5 hen hrun
      rw [hk, hv] at hrun hen
      unfold spotV at hrun hen
      have cf : W1.cell? ⟨p.2.f, 0, none⟩ = some (.int .i64 p.2.n) := by
        rw [k4.cell (p := ⟨p.2.f, 0, none⟩) (lt_of_some (h.fuse p.2 hpm)), cell_of_block (h.fuse p.2 hpm)]; rfl
      have cf2 : (W1.alloc (.cells #[.int .i64 p.2.d, .int .i64 p.2.l] 32)).cell? ⟨p.2.f, 0, none⟩ = some (.int .i64 p.2.n) := (World.cell?_alloc_lt _ _ _ (Nat.lt_of_lt_of_le (lt_of_some (h.fuse p.2 hpm)) k4.size)).trans cf
      have hlf : p.2.f < W1.heap.size := Nat.lt_of_lt_of_le (lt_of_some (h.fuse p.2 hpm)) k4.size
      have hbl : wr.rangeLeft bm w.heap.size = (leftOf es seen).size := by
        simp only [World.rangeLeft, hbr, R.iter]
      have hb1 : W1.heap[bm]? = some (.map es clock) := (k4.block bm hlb).trans HB.out
      have hml : W1.rangeLeft bm w.heap.size = (leftOf es (seen.push p.1.born)).size := by
        simp only [World.rangeLeft, hb1, k1]
      have K1 := Lib.hid k1
      have K3 := Lib.hid k3
      have HBL := Lib.hid hbl
      have HML := Lib.hid hml
      have HR := Lib.hid hbr
      have HB1 := Lib.hid hb1
      have HLT := Lib.hid hlt
      have K5 := Lib.hid k5
      clear k1 k3 hbl hml hbr hb1 hlt hx hk hv hW1 hw1 hp k5
      by_cases hn0 : p.2.n = 0
      · have hn0' : (p.2.n != 0) = false := by simp [hn0]
        have HN0 := Lib.hid hn0
        clear hn0
        go_wp2_with (first | (go_at_call 33; refine (load_any _ p.2.n _ cf2).mono ?_; rintro e w' ⟨rfl, rfl⟩))
        go_roundw
        case rel =>
          refine ⟨acc, seen.push p.1.born, clock, heap_old _ K1.out, Nat.le_refl _, k2.alloc _, ?_, k4.alloc k4.size _⟩
          have := K3.out
          rw [got_cons_no _ HN0.out] at this
          exact this
        case measure =>
          have e1 : (W1.alloc (.cells #[.int .i64 p.2.d, .int .i64 p.2.l] 32)).rangeLeft bm w.heap.size = (leftOf es (seen.push p.1.born)).size := by
            simp only [World.rangeLeft, heap_old _ HB1.out, heap_old _ K1.out]
          rw [e1, HBL.out]
          exact HLT.out
      · have hn0' : (p.2.n != 0) = true := by simp [hn0]
        have HN0 := Lib.hid hn0
        clear hn0
        go_wp2_with (first | (go_at_call 33; refine (load_any _ p.2.n _ cf2).mono ?_; rintro e w' ⟨rfl, rfl⟩) | (at_builtin; refine wpList_append_own _ rfl _ _ 56 rfl w.heap.size 32 i0 (.agg #[.int .i64 0, .int .i64 0]) 2 16 Try.underlying56 HI.out HZ0.out HZ1.out HZ2.out rfl (by decide) _ _ _ rfl ((k2.alloc _).alloc _) ⟨W1.heap.size + 1, 0, none⟩ 1 1 [.int .i64 p.2.d, .int .i64 p.2.l] rfl rfl ?c1 ?c2 ?c3 ?c4 ?c5 ?_))
        case c1 =>
          intro j u hj
          have hb2 := heap_new (W1.alloc (.cells #[.int .i64 p.2.d, .int .i64 p.2.l] 32)) (.cells #[.int .i64 p.2.d, .int .i64 p.2.l] 32)
          rw [World.size_alloc] at hb2
          rw [addr_add, cell_of_block hb2, ← hj]
          simp
        case c2 => intro u hu; simp at hu; rcases hu with rfl | rfl <;> rfl
        case c3 => unfold maxLen; omega
        case c4 => omega
        case c5 => have := k4.size; simp; omega
        intro v' w2 hown' hgrow hnil
        have hne : some w.heap.size ≠ Value.ownBlock _ := (row_ne_iter k2 K1.out).symm
        have hlr := lt_of_some K1.out
        have m1 : w2.heap[w.heap.size]? = some (.mapIter (some bm) clock (seen.push p.1.born) clock) := (hgrow.block _ (by simp; omega) hne).trans (heap_old _ (heap_old _ K1.out))
        have m2 : Below w.heap.size w w2 := ((k4.alloc k4.size _).alloc (by have := k4.size; simp; omega) _).grown hgrow (by have := k4.size; simp; omega) (fun k hk => (k2.lt k hk).1)
        have m3 : (acc ++ [(p.2.d, p.2.l)] ++ got (restOf (es.toList.zip m) (seen.push p.1.born))).Perm (got (es.toList.zip m)) := by
          have := K3.out
          rw [got_cons_yes _ HN0.out] at this
          simpa [spOf] using this
        have M1 := Lib.hid m1
        have M3 := Lib.hid m3
        have M2 := Lib.hid m2
        have HO2 := Lib.hid hown'
        clear m1 m3 m2 hown' hgrow hnil hne
        go_wp2
        go_roundw
        case rel =>
          refine ⟨acc ++ [(p.2.d, p.2.l)], seen.push p.1.born, clock, M1.out, Nat.le_refl _, ?_, M3.out, M2.out⟩
          have := HO2.out
          rw [flat_append, List.length_append]
          exact this
        case measure =>
          have e1 : w2.rangeLeft bm w.heap.size = (leftOf es (seen.push p.1.born)).size := by
            simp only [World.rangeLeft, (M2.out.block bm hlb).trans HB.out, M1.out]
          rw [e1, HBL.out]
          exact HLT.out
#print axioms spots_box
end Go.Proofs.Ytckmjglomofooaa
