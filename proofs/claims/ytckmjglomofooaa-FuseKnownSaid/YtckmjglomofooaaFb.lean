/-
  The fuse seat: how a box lies in memory; what its map answers.
-/
import Derived.Test.YtckmjglomofooaaFa
import Derived.ProofKit
import Derived.DeepKeys4
import Derived.Maps.Own
import Derived.Maps.Keyed
import Derived.Maps.RangeRun
import Derived.Deep.QuietTactic
namespace Go.Proofs.Ytckmjglomofooaa
open Go.RowKit

theorem Try.own : ownKnob Try.prog.godebug = none := by kernel_rfl
theorem Try.laidOut : laidOutB Try.prog = true := by kernel_rfl
theorem Try.row32 : (32 : TypeId) < Try.prog.types.size := of_decide_eq_true (by kernel_rfl)
theorem Try.law32 : Maps.Keyed Try.prog 32 := Maps.Keyed.of_law (deep_law_laid Try.laidOut (m := 2) (by omega) Try.row32 (by kernel_rfl) (by simp only [Try.underlying32]))
theorem Try.cells3 : Try.prog.cellsOf 3 = 1 := by kernel_rfl
theorem Try.cells30 : Try.prog.cellsOf 30 = 1 := by kernel_rfl
theorem Try.cells32 : Try.prog.cellsOf 32 = 2 := by kernel_rfl
theorem Try.keyType32 : Try.prog.keyType 32 = true := by kernel_rfl
theorem Try.zero69 (w : World) : (zeroValue 69).run Try.prog w = .ok (.pointer none) w := by kernel_rfl

/-- A spot as a value. -/
def spotV (d l : Int) : Value := .agg #[.int .i64 d, .int .i64 l]

theorem spotV_inj {d l d' l' : Int} (h : spotV d l = spotV d' l') : d = d' ∧ l = l' := by
  simp [spotV] at h
  exact h

theorem keyOf_spot (d l : Int) (hd : (Lit.int .i64 d).wf = true) (hl : (Lit.int .i64 l).wf = true) : ∃ kl, keyOf Try.prog 32 (spotV d l) = some kl := by
  unfold keyOf
  rw [Try.underlying32]
  have hf : (spotV d l).formed Try.prog 32 = true := by simp [Value.formed, spotV, Try.underlying32, Try.cells32]
  simp only [Try.keyType32, hf, Bool.and_self, if_true]
  obtain ⟨n, hn⟩ : ∃ n, Try.prog.types.size = n + 1 := ⟨133, by kernel_rfl⟩
  rw [hn]
  simp [spotV, Value.cells, Program.keyLits, Try.underlying32, Try.cells32, Try.underlying3, Try.underlying30, Try.cells3, Try.cells30, hd, hl]

/-- A spot of the box: its fuse's block, its number. -/
structure Ent where
  d : Int
  l : Int
  f : Nat
  n : Int

def Ent.ok (e : Ent) : Prop := 0 ≤ e.d ∧ e.d ≤ 1000 ∧ 0 ≤ e.l ∧ e.l ≤ 9 ∧ 0 ≤ e.n ∧ e.n ≤ 100000000000000000

/-- Block bm is the map of these. -/
def MapAt (w : World) (bm : Nat) (m : List Ent) : Prop :=
  ∃ es clock, w.heap[bm]? = some (.map es clock) ∧ MapKept.Stamped es clock ∧ es.toList.map (fun x => (x.key, x.val)) = m.map (fun e => (spotV e.d e.l, Value.pointer (some ⟨e.f, 0, none⟩)))

theorem wf_i64 {x : Int} (h0 : 0 ≤ x) (h1 : x ≤ 1000) : (Lit.int .i64 x).wf = true := WalkArith.wf_i64 (by omega)

theorem MapAt.keys_nodup {w : World} {bm : Nat} {m : List Ent} (h : MapAt w bm m) : (m.map (fun e => (e.d, e.l))).Nodup := by
  obtain ⟨es, clock, _, ⟨_, _, h3⟩, hm⟩ := h
  have h4 : (es.toList.map (·.key)) = m.map (fun e => spotV e.d e.l) := by
    have := congrArg (List.map Prod.fst) hm
    simpa [List.map_map, Function.comp_def] using this
  rw [h4] at h3
  rw [List.Nodup, List.pairwise_map] at h3 ⊢
  exact h3.imp (fun {a b} hne e => hne (by simp only [Prod.mk.injEq] at e; rw [e.1, e.2]))

theorem ent_of_key {m : List Ent} (hn : (m.map (fun e => (e.d, e.l))).Nodup) {e e' : Ent} (he : e ∈ m) (he' : e' ∈ m) (hd : e.d = e'.d) (hl : e.l = e'.l) : e = e' := by
  induction m with
  | nil => cases he
  | cons x m ih =>
    simp only [List.map_cons, List.nodup_cons] at hn
    obtain ⟨h1, h2⟩ := hn
    rcases List.mem_cons.1 he with he1 | he1
    · rcases List.mem_cons.1 he' with he2 | he2
      · rw [he1, he2]
      · exact (h1 (List.mem_map.2 ⟨e', he2, by rw [← he1, hd, hl]⟩)).elim
    · rcases List.mem_cons.1 he' with he2 | he2
      · exact (h1 (List.mem_map.2 ⟨e, he1, by rw [← he2, hd, hl]⟩)).elim
      · exact ih h2 he1 he2

theorem MapAt.find {w : World} {bm : Nat} {m : List Ent} (h : MapAt w bm m) (hok : ∀ e ∈ m, e.ok) (d l : Int) (hd : (Lit.int .i64 d).wf = true) (hl : (Lit.int .i64 l).wf = true) :
    ((Instr.lookup 66 (.map (some bm)) (spotV d l) false).run Try.prog w = .ok (.pointer none) w ∧ (∀ e ∈ m, ¬ (e.d = d ∧ e.l = l)) ∧
      ∀ v, ∃ es clock, w.heap[bm]? = some (.map es clock) ∧ (Instr.mapUpdate 66 (.map (some bm)) (spotV d l) v).run Try.prog w = .ok () (ChangeMaps.setBlock w bm (.map (es.push ⟨spotV d l, v, clock⟩) (clock + 1))) ∧
        MapKept.Stamped (es.push ⟨spotV d l, v, clock⟩) (clock + 1) ∧ (es.push ⟨spotV d l, v, clock⟩).toList.map (fun x => (x.key, x.val)) = m.map (fun e => (spotV e.d e.l, Value.pointer (some ⟨e.f, 0, none⟩))) ++ [(spotV d l, v)]) ∨
    ∃ e ∈ m, e.d = d ∧ e.l = l ∧ (Instr.lookup 66 (.map (some bm)) (spotV d l) false).run Try.prog w = .ok (.pointer (some ⟨e.f, 0, none⟩)) w := by
  obtain ⟨es, clock, hb, hs, hm⟩ := h
  obtain ⟨kl, hkey⟩ := keyOf_spot d l hd hl
  have hmem : ∀ x ∈ es.toList, ∃ e ∈ m, x.key = spotV e.d e.l ∧ x.val = .pointer (some ⟨e.f, 0, none⟩) := by
    intro x hx
    have : (x.key, x.val) ∈ m.map (fun e => (spotV e.d e.l, Value.pointer (some ⟨e.f, 0, none⟩))) := by rw [← hm]; exact List.mem_map.2 ⟨x, hx, rfl⟩
    obtain ⟨e, he, h⟩ := List.mem_map.1 this
    simp only [Prod.mk.injEq] at h
    exact ⟨e, he, h.1.symm, h.2.symm⟩
  have hkeys : ∀ x ∈ es.toList, ∃ l, keyOf Try.prog 32 x.key = some l := by
    intro x hx
    obtain ⟨e, he, h1, _⟩ := hmem x hx
    obtain ⟨o1, o2, o3, o4, _⟩ := hok e he
    rw [h1]
    exact keyOf_spot _ _ (wf_i64 o1 o2) (wf_i64 o3 (by omega))
  rcases Try.law32.find w hkey es.toList hkeys with ⟨h1, h2⟩ | ⟨j, e0, h1, h2, h3⟩
  · left
    refine ⟨?_, ?_, fun v => ⟨es, clock, hb, ?_, ?_, ?_⟩⟩
    · simp [Instr.lookup, run_underlying Try.underlying66, MapKept.run_getObj_map hb, Try.law32.check w _ hkey, h1, Result.andThen]
    · rintro e he ⟨rfl, rfl⟩
      have : (spotV e.d e.l, Value.pointer (some ⟨e.f, 0, none⟩)) ∈ es.toList.map (fun x => (x.key, x.val)) := by rw [hm]; exact List.mem_map.2 ⟨e, he, rfl⟩
      obtain ⟨x, hx, hxe⟩ := List.mem_map.1 this
      simp only [Prod.mk.injEq] at hxe
      exact h2 x hx hxe.1
    · simp [Instr.mapUpdate, run_underlying Try.underlying66, MapKept.run_getObj_map hb, Try.law32.check w false hkey, h1, MapKept.run_setObj_map _ hb, Result.andThen, ChangeMaps.setBlock]
    · exact MapKept.stamped_push hs h2
    · simp [hm]
  · right
    have hx : e0 ∈ es.toList := List.mem_of_getElem? h2
    obtain ⟨e, he, k1, k2⟩ := hmem e0 hx
    obtain ⟨hd', hl'⟩ := spotV_inj (k1.symm.trans h3)
    refine ⟨e, he, hd', hl', ?_⟩
    simp [Instr.lookup, run_underlying Try.underlying66, MapKept.run_getObj_map hb, Try.law32.check w _ hkey, h1, Result.andThen, k2]

theorem MapAt.look {w : World} {bm : Nat} {m : List Ent} (h : MapAt w bm m) (hok : ∀ e ∈ m, e.ok) {e : Ent} (he : e ∈ m) :
    (Instr.lookup 66 (.map (some bm)) (spotV e.d e.l) false).run Try.prog w = .ok (.pointer (some ⟨e.f, 0, none⟩)) w := by
  obtain ⟨o1, o2, o3, o4, _⟩ := hok e he
  rcases h.find hok e.d e.l (wf_i64 o1 o2) (wf_i64 o3 (by omega)) with ⟨_, h2, _⟩ | ⟨e', he', hd, hl, hr⟩
  · exact (h2 e he ⟨rfl, rfl⟩).elim
  · rw [hr, ent_of_key h.keys_nodup he' he hd hl]

/-- What has turned between two worlds: blocks of G alone, and new ones. -/
structure Fr (w w' : World) (G : Nat → Prop) : Prop where
  os : w'.os = w.os
  tape : w'.tape = w.tape
  output : w'.output = w.output
  size : w.heap.size ≤ w'.heap.size
  block : ∀ k, k < w.heap.size → ¬ G k → w'.heap[k]? = w.heap[k]?

theorem Fr.refl (w : World) (G : Nat → Prop) : Fr w w G := ⟨rfl, rfl, rfl, Nat.le_refl _, fun _ _ _ => rfl⟩
theorem Fr.trans {a b c : World} {G G' : Nat → Prop} (h : Fr a b G) (k : Fr b c G') (hg : ∀ i, i < a.heap.size → G' i → G i) : Fr a c G :=
  ⟨k.os.trans h.os, k.tape.trans h.tape, k.output.trans h.output, Nat.le_trans h.size k.size, fun i hi hG => (k.block i (Nat.lt_of_lt_of_le hi h.size) (fun x => hG (hg i hi x))).trans (h.block i hi hG)⟩
theorem Fr.mono {a b : World} {G G' : Nat → Prop} (h : Fr a b G) (hg : ∀ i, i < a.heap.size → G i → G' i) : Fr a b G' := ⟨h.os, h.tape, h.output, h.size, fun i hi hG => h.block i hi (fun x => hG (hg i hi x))⟩
theorem Fr.alloc {a w : World} {G : Nat → Prop} (h : Fr a w G) (o : Obj) : Fr a (w.alloc o) G :=
  ⟨h.os, h.tape, h.output, by simp; have := h.size; omega, fun i hi hG => (Below.heap_alloc w o i (Nat.lt_of_lt_of_le hi h.size)).trans (h.block i hi hG)⟩
theorem Fr.drew {a w : World} {G : Nat → Prop} (h : Fr a w G) : Fr a w.drew G := ⟨h.os, h.tape, h.output, h.size, h.block⟩
theorem Fr.setCell {a w : World} {G : Nat → Prop} (h : Fr a w G) (p : Addr) (v : Value) (hp : p.block < a.heap.size → G p.block) : Fr a (w.setCell p v) G :=
  ⟨h.os, h.tape, h.output, by simp; exact h.size, fun i hi hG => (Below.heap_setCell w p v i (fun e => hG (e ▸ hp (e ▸ hi)))).trans (h.block i hi hG)⟩
theorem Fr.below {w w' : World} {n : Nat} (h : Below n w w') (hn : w.heap.size ≤ n) (G : Nat → Prop) : Fr w w' G := ⟨h.os, h.tape, h.output, h.size, fun i hi _ => h.block i (by omega)⟩
theorem Fr.to_below {w w' : World} {n : Nat} {G : Nat → Prop} (h : Fr w w' G) (hn : n ≤ w.heap.size) (hG : ∀ i, i < n → ¬ G i) : Below n w w' := ⟨h.os, h.tape, h.output, h.size, fun i hi => h.block i (by omega) (hG i hi)⟩

/-- A box in memory: its cells, its map, each fuse's cell. -/
structure FBox (w : World) (b : Nat) (most rest now : Int) (bm : Nat) (m : List Ent) : Prop where
  box : w.heap[b]? = some (.cells #[.int .i64 most, .int .i64 rest, .int .i64 now, .map (some bm)] 68 (0, 0))
  map : MapAt w bm m
  fuse : ∀ e ∈ m, w.heap[e.f]? = some (.cells #[.int .i64 e.n] 81 (0, 0))
  apart : (m.map (·.f)).Nodup
  ok : ∀ e ∈ m, e.ok
  most1 : 1 ≤ most ∧ most ≤ 1000
  rest1 : 1 ≤ rest ∧ rest ≤ 1000000
  now1 : 0 ≤ now ∧ now ≤ 4503599627370496

/-- The blocks of a box. -/
def FBox.of (b bm : Nat) (m : List Ent) (k : Nat) : Prop := k = b ∨ k = bm ∨ ∃ e ∈ m, k = e.f

theorem FBox.kept {w w' : World} {b bm : Nat} {most rest now : Int} {m : List Ent} {G : Nat → Prop} (h : FBox w b most rest now bm m) (hf : Fr w w' G) (hG : ∀ k, FBox.of b bm m k → ¬ G k) : FBox w' b most rest now bm m := by
  have lt : ∀ {k : Nat} {o : Obj}, w.heap[k]? = some o → k < w.heap.size := fun h => (Array.getElem?_eq_some_iff.1 h).1
  obtain ⟨es, clock, hb, hs, hm⟩ := h.map
  exact { h with
    box := (hf.block _ (lt h.box) (hG _ (.inl rfl))).trans h.box
    map := ⟨es, clock, (hf.block _ (lt hb) (hG _ (.inr (.inl rfl)))).trans hb, hs, hm⟩
    fuse := fun e he => (hf.block _ (lt (h.fuse e he)) (hG _ (.inr (.inr ⟨e, he, rfl⟩)))).trans (h.fuse e he) }

theorem Fr.drewN {a w : World} {G : Nat → Prop} (h : Fr a w G) (n : Nat) : Fr a (w.drewN n) G := ⟨h.os, h.tape, h.output, h.size, h.block⟩
theorem FBox.drewN {w : World} {b bm : Nat} {most rest now : Int} {m : List Ent} (h : FBox w b most rest now bm m) (n : Nat) : FBox (w.drewN n) b most rest now bm m := h.kept ((Fr.refl w (fun _ => False)).drewN n) (fun _ _ h => h)

theorem cell_of_block {w : World} {b : Nat} {xs : Array Value} {t : TypeId} (h : w.heap[b]? = some (.cells xs t (0, 0))) (i : Nat) : w.cell? ⟨b, i, none⟩ = xs[i]? := by simp [World.cell?, h]
theorem free_of_block {w : World} {b : Nat} {xs : Array Value} {t : TypeId} (h : w.heap[b]? = some (.cells xs t (0, 0))) (i : Nat) : w.frozen? ⟨b, i, none⟩ = false := by simp [World.frozen?, h]
theorem set_of_block {w : World} {b : Nat} {xs : Array Value} {t : TypeId} (h : w.heap[b]? = some (.cells xs t (0, 0))) (i : Nat) (v : Value) : (w.setCell ⟨b, i, none⟩ v).heap[b]? = some (.cells (xs.setIfInBounds i v) t (0, 0)) := by
  simp [World.setCell, Array.getElem?_modify, h]
theorem lt_of_some {w : World} {b : Nat} {o : Obj} (h : w.heap[b]? = some o) : b < w.heap.size := (Array.getElem?_eq_some_iff.1 h).1

theorem heap_new (w : World) (o : Obj) : (w.alloc o).heap[w.heap.size]? = some o := (MapKept.heap_alloc w o).1
theorem heap_old {w : World} {b : Nat} {o : Obj} (o' : Obj) (h : w.heap[b]? = some o) : (w.alloc o').heap[b]? = some o := (Below.heap_alloc w o' b (lt_of_some h)).trans h
theorem heap_set_other {w : World} {b : Nat} {o : Obj} (p : Addr) (v : Value) (h : w.heap[b]? = some o) (hne : b ≠ p.block) : (w.setCell p v).heap[b]? = some o := (Below.heap_setCell w p v b hne).trans h

theorem FBox.ne_map {w : World} {b bm : Nat} {most rest now : Int} {m : List Ent} (h : FBox w b most rest now bm m) : b ≠ bm ∧ ∀ e ∈ m, e.f ≠ bm ∧ e.f ≠ b := by
  obtain ⟨es, clock, hb, _⟩ := h.map
  refine ⟨fun h' => ?_, fun e he => ⟨fun h' => ?_, fun h' => ?_⟩⟩
  · rw [← h', h.box] at hb
    simp at hb
  · rw [← h', h.fuse e he] at hb
    simp at hb
  · have k1 := h.fuse e he
    rw [h', h.box] at k1
    simp at k1

/-- A new fuse is laid into the map. -/
theorem FBox.insert {w : World} {b bm : Nat} {most rest now : Int} {m : List Ent} (h : FBox w b most rest now bm m) (d l : Int) (hd0 : 0 ≤ d) (hd1 : d ≤ 1000) (hl0 : 0 ≤ l) (hl1 : l ≤ 9) (hx : ∀ e ∈ m, ¬ (e.d = d ∧ e.l = l))
    (f : Nat) (hf : w.heap[f]? = some (.cells #[.int .i64 0] 81 (0, 0))) (hfm : ∀ e ∈ m, e.f ≠ f) :
    ∃ w3, (Instr.mapUpdate 66 (.map (some bm)) (.agg #[.int .i64 d, .int .i64 l]) (.pointer (some ⟨f, 0, none⟩))).run Try.prog w = .ok () w3 ∧ FBox w3 b most rest now bm (m ++ [⟨d, l, f, 0⟩]) ∧ Fr w w3 (· = bm) := by
  obtain ⟨n1, n2⟩ := h.ne_map
  rcases h.map.find h.ok d l (wf_i64 hd0 hd1) (wf_i64 hl0 (by omega)) with ⟨_, _, hu⟩ | ⟨e, he, k1, k2, _⟩
  · obtain ⟨es, clock, hb, hrun, hs, hm⟩ := hu (.pointer (some ⟨f, 0, none⟩))
    have hset := MapKept.heap_set (o' := .map (es.push ⟨spotV d l, .pointer (some ⟨f, 0, none⟩), clock⟩) (clock + 1)) hb
    have hfb : f ≠ bm := fun h' => by rw [h', hb] at hf; simp at hf
    refine ⟨_, hrun, ?_, ⟨rfl, rfl, rfl, by simp [ChangeMaps.setBlock], fun k _ hk => hset.2 k hk⟩⟩
    exact { h with
      box := (hset.2 b n1).trans h.box
      map := ⟨_, _, hset.1, hs, by rw [hm]; simp⟩
      fuse := fun e he => by
        rcases List.mem_append.1 he with he | he
        · exact (hset.2 _ (n2 e he).1).trans (h.fuse e he)
        · simp only [List.mem_singleton] at he
          subst he
          exact (hset.2 _ hfb).trans hf
      apart := by
        rw [List.map_append, List.nodup_append]
        refine ⟨h.apart, by simp, ?_⟩
        intro x hx y hy
        obtain ⟨e, he, rfl⟩ := List.mem_map.1 hx
        simp only [List.map_cons, List.map_nil, List.mem_singleton] at hy
        subst hy
        exact hfm e he
      ok := fun e he => by
        rcases List.mem_append.1 he with he | he
        · exact h.ok e he
        · simp only [List.mem_singleton] at he
          subst he
          exact ⟨hd0, hd1, hl0, hl1, by dsimp only; omega, by dsimp only; omega⟩ }
  · exact (hx e he ⟨k1, k2⟩).elim

theorem FBox.fresh {w : World} {b bm : Nat} {most rest now : Int} {m : List Ent} (h : FBox w b most rest now bm m) {f : Nat} (hf : w.heap.size ≤ f) : ∀ e ∈ m, e.f ≠ f := fun e he h' => by
  have := lt_of_some (h.fuse e he)
  omega

#print axioms MapAt.find
#print axioms FBox.kept
end Go.Proofs.Ytckmjglomofooaa
