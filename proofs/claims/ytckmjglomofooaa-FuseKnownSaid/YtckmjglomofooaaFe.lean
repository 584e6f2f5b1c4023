/-
  The fuse seat: a box by what it answers (its tick, and a number for each spot); at; Ask.
-/
import Derived.Test.YtckmjglomofooaaFd
namespace Go.Proofs.Ytckmjglomofooaa
open Go.RowKit

/-- A spot's number. -/
def val (m : List Ent) (d l : Int) : Int := match m.find? (fun e => decide (e.d = d ∧ e.l = l)) with
  | some e => e.n
  | none => 0

theorem val_mem {m : List Ent} (hn : (m.map (fun e => (e.d, e.l))).Nodup) {e : Ent} (he : e ∈ m) : val m e.d e.l = e.n := by
  unfold val
  cases h : m.find? (fun x => decide (x.d = e.d ∧ x.l = e.l)) with
  | none =>
    have := List.find?_eq_none.1 h e he
    simp at this
  | some x =>
    have h1 := List.mem_of_find?_eq_some h
    have h2 := List.find?_some h
    simp at h2
    rw [ent_of_key hn h1 he h2.1 h2.2]

theorem val_none {m : List Ent} {d l : Int} (h : ∀ e ∈ m, ¬ (e.d = d ∧ e.l = l)) : val m d l = 0 := by
  unfold val
  rw [List.find?_eq_none.2 (fun e he => by simpa using h e he)]

theorem val_snoc (m : List Ent) (d l : Int) (f : Nat) (d' l' : Int) : val (m ++ [⟨d, l, f, 0⟩]) d' l' = val m d' l' := by
  unfold val
  rw [List.find?_append]
  cases h : m.find? (fun x => decide (x.d = d' ∧ x.l = l')) with
  | some x => rfl
  | none =>
    simp only [Option.none_or, List.find?_cons, List.find?_nil]
    split <;> rename_i h'
    · split at h'
      · cases h'; rfl
      · cases h'
    · rfl

/-- The entries with another number at a spot. -/
def putN (m : List Ent) (d l v : Int) : List Ent := m.map (fun e => if e.d = d ∧ e.l = l then { e with n := v } else e)

theorem val_putN (m : List Ent) (d l v : Int) (hp : ∃ e ∈ m, e.d = d ∧ e.l = l) (d' l' : Int) : val (putN m d l v) d' l' = if d' = d ∧ l' = l then v else val m d' l' := by
  unfold val putN
  rw [List.find?_map]
  have e1 : ((fun e : Ent => decide (e.d = d' ∧ e.l = l')) ∘ fun e : Ent => if e.d = d ∧ e.l = l then { e with n := v } else e) = fun e : Ent => decide (e.d = d' ∧ e.l = l') := by
    funext e
    simp only [Function.comp]
    split <;> rfl
  rw [e1]
  cases h : m.find? (fun x => decide (x.d = d' ∧ x.l = l')) with
  | none =>
    have hn := List.find?_eq_none.1 h
    rw [if_neg]
    · rfl
    · rintro ⟨rfl, rfl⟩
      obtain ⟨e, he, k⟩ := hp
      have := hn e he
      simp [k] at this
  | some x =>
    have h2 := List.find?_some h
    simp at h2
    obtain ⟨rfl, rfl⟩ := h2
    simp only [Option.map_some]
    split <;> rfl

/-- A box by what it answers; F: its blocks. -/
def FB (w : World) (b : Nat) (most rest now : Int) (st : Int → Int → Int) (F : Nat → Prop) : Prop :=
  ∃ bm m, FBox w b most rest now bm m ∧ (∀ d l, val m d l = st d l) ∧ (∀ k, FBox.of b bm m k → F k) ∧ ∀ k, F k → k < w.heap.size

theorem FB.kept {w w' : World} {b : Nat} {most rest now : Int} {st : Int → Int → Int} {F G : Nat → Prop} (h : FB w b most rest now st F) (hf : Fr w w' G) (hG : ∀ k, F k → ¬ G k) : FB w' b most rest now st F := by
  obtain ⟨bm, m, h1, h2, h3, h4⟩ := h
  exact ⟨bm, m, h1.kept hf (fun k hk => hG k (h3 k hk)), h2, h3, fun k hk => Nat.lt_of_lt_of_le (h4 k hk) hf.size⟩

theorem FB.mono {w : World} {b : Nat} {most rest now : Int} {st : Int → Int → Int} {F G : Nat → Prop} (h : FB w b most rest now st F) (hG : ∀ k, F k → G k) (hG2 : ∀ k, G k → k < w.heap.size) : FB w b most rest now st G := by
  obtain ⟨bm, m, h1, h2, h3, h4⟩ := h
  exact ⟨bm, m, h1, h2, fun k hk => hG k (h3 k hk), hG2⟩

/-- F, and what is new. -/
def grow (F : Nat → Prop) (w w' : World) : Nat → Prop := fun k => F k ∨ (w.heap.size ≤ k ∧ k < w'.heap.size)

theorem FBox.fuseLt {w : World} {b bm : Nat} {most rest now : Int} {m : List Ent} (h : FBox w b most rest now bm m) : ∀ k, FBox.of b bm m k → k < w.heap.size := by
  rintro k (rfl | rfl | ⟨e, he, rfl⟩)
  · exact lt_of_some h.box
  · obtain ⟨es, clock, hb, _⟩ := h.map
    exact lt_of_some hb
  · exact lt_of_some (h.fuse e he)

/-- at: of what may be. -/
theorem at_ok {w : World} {b bm : Nat} {most rest now : Int} {m : List Ent} (h : FBox w b most rest now bm m) (d l tick : Int) (hok : ¬ BadAt d l tick) :
    Calls Try.prog 24 #[.pointer (some ⟨b, 0, none⟩), .agg #[.int .i64 d, .int .i64 l], .int .i64 tick] w fun e w' => ∃ m' x t, x ∈ m' ∧ x.d = d ∧ x.l = l ∧ x.n = val m d l ∧ t = max now tick ∧
      e = .returned (.tuple #[.pointer (some ⟨x.f, 0, none⟩), .int .i64 t, .int .i64 0]) ∧ FBox w' b most rest t bm m' ∧ (∀ d' l', val m' d' l' = val m d' l') ∧ Fr w w' (fun k => k = b ∨ k = bm) ∧
      ∀ k, FBox.of b bm m' k → FBox.of b bm m k ∨ w.heap.size ≤ k := by
  have hn := h.now1
  have hb : 0 ≤ tick ∧ tick ≤ 4503599627370496 ∧ 0 ≤ d ∧ d ≤ 1000 ∧ 0 ≤ l ∧ l ≤ 9 := by unfold BadAt at hok; omega
  obtain ⟨t0, t1, d0, d1, l0, l1⟩ := hb
  by_cases hp : ∃ e ∈ m, e.d = d ∧ e.l = l
  · obtain ⟨x, hx, rfl, rfl⟩ := hp
    have hv := val_mem h.map.keys_nodup hx
    by_cases ht : tick ≤ now
    · refine (at_has_old h hx tick t0 ht).mono ?_
      rintro e w' ⟨rfl, h1, h2⟩
      exact ⟨m, x, now, hx, rfl, rfl, hv.symm, by omega, rfl, h1, fun _ _ => rfl, h2.mono (fun _ _ h => h.elim), fun k hk => .inl hk⟩
    · refine (at_has_new h hx tick (by omega) t1).mono ?_
      rintro e w' ⟨rfl, h1, h2⟩
      exact ⟨m, x, tick, hx, rfl, rfl, hv.symm, by omega, rfl, h1, fun _ _ => rfl, h2.mono (fun _ _ h => .inl h), fun k hk => .inl hk⟩
  · have hp' : ∀ e ∈ m, ¬ (e.d = d ∧ e.l = l) := fun e he k => hp ⟨e, he, k⟩
    have of_snoc : ∀ (f : Nat), w.heap.size ≤ f → ∀ k, FBox.of b bm (m ++ [⟨d, l, f, 0⟩]) k → FBox.of b bm m k ∨ w.heap.size ≤ k := by
      rintro f hf k (rfl | rfl | ⟨e, he, rfl⟩)
      · exact .inl (.inl rfl)
      · exact .inl (.inr (.inl rfl))
      · rcases List.mem_append.1 he with he | he
        · exact .inl (.inr (.inr ⟨e, he, rfl⟩))
        · simp only [List.mem_singleton] at he
          subst he
          exact .inr hf
    by_cases ht : tick ≤ now
    · refine (at_new_old h d l d0 d1 l0 l1 hp' tick t0 ht).mono ?_
      rintro e w' ⟨f, rfl, h1, h2, h3⟩
      exact ⟨_, ⟨d, l, f, 0⟩, now, List.mem_append_right _ (by simp), rfl, rfl, (val_none hp').symm, by omega, rfl, h1, val_snoc _ _ _ _, h2.mono (fun _ _ h => .inr h), of_snoc f h3⟩
    · refine (at_new_new h d l d0 d1 l0 l1 hp' tick (by omega) t1).mono ?_
      rintro e w' ⟨f, rfl, h1, h2, h3⟩
      exact ⟨_, ⟨d, l, f, 0⟩, tick, List.mem_append_right _ (by simp), rfl, rfl, (val_none hp').symm, by omega, rfl, h1, val_snoc _ _ _ _, h2, of_snoc f h3⟩

theorem map_f_putN (m : List Ent) (d l v : Int) : (putN m d l v).map (·.f) = m.map (·.f) := by
  unfold putN
  rw [List.map_map]
  congr 1
  funext e
  simp only [Function.comp]
  split <;> rfl

theorem mem_putN {m : List Ent} {d l v : Int} {e : Ent} (h : e ∈ putN m d l v) : ∃ e0 ∈ m, e.f = e0.f ∧ e.d = e0.d ∧ e.l = e0.l ∧ ((e.n = v ∧ e0.d = d ∧ e0.l = l) ∨ (e.n = e0.n ∧ ¬ (e0.d = d ∧ e0.l = l))) := by
  obtain ⟨e0, he0, rfl⟩ := List.mem_map.1 h
  refine ⟨e0, he0, ?_⟩
  split <;> rename_i hc
  · exact ⟨rfl, rfl, rfl, .inl ⟨rfl, hc⟩⟩
  · exact ⟨rfl, rfl, rfl, .inr ⟨rfl, hc⟩⟩

theorem f_inj {m : List Ent} (hn : (m.map (·.f)).Nodup) {e e' : Ent} (he : e ∈ m) (he' : e' ∈ m) (hf : e.f = e'.f) : e = e' := by
  induction m with
  | nil => cases he
  | cons x m ih =>
    simp only [List.map_cons, List.nodup_cons] at hn
    obtain ⟨h1, h2⟩ := hn
    rcases List.mem_cons.1 he with he1 | he1
    · rcases List.mem_cons.1 he' with he2 | he2
      · rw [he1, he2]
      · exact (h1 (List.mem_map.2 ⟨e', he2, by rw [← he1, hf]⟩)).elim
    · rcases List.mem_cons.1 he' with he2 | he2
      · exact (h1 (List.mem_map.2 ⟨e, he1, by rw [← he2, hf]⟩)).elim
      · exact ih h2 he1 he2

/-- A fuse gets another number. -/
theorem FBox.setN {w : World} {b bm : Nat} {most rest now : Int} {m : List Ent} (h : FBox w b most rest now bm m) {x : Ent} (hx : x ∈ m) (v : Int) (h0 : 0 ≤ v) (h1 : v ≤ 100000000000000000) :
    FBox (w.setCell ⟨x.f, 0, none⟩ (.int .i64 v)) b most rest now bm (putN m x.d x.l v) := by
  obtain ⟨n1, n2⟩ := h.ne_map
  obtain ⟨es, clock, hb, hs, hm⟩ := h.map
  exact { h with
    box := heap_set_other _ _ h.box (n2 x hx).2.symm
    map := ⟨es, clock, heap_set_other _ _ hb (n2 x hx).1.symm, hs, by
      rw [hm]
      unfold putN
      rw [List.map_map]
      apply List.map_congr_left
      intro e _
      simp only [Function.comp]
      split <;> rfl⟩
    fuse := fun e he => by
      obtain ⟨e0, he0, k1, k2, k3, k4⟩ := mem_putN he
      rcases k4 with ⟨k4, k5, k6⟩ | ⟨k4, k5⟩
      · have := ent_of_key h.map.keys_nodup he0 hx k5 k6
        subst this
        rw [k1, k4]
        have := set_of_block (h.fuse e0 he0) 0 (.int .i64 v)
        simpa using this
      · rw [k1, k4]
        refine heap_set_other _ _ (h.fuse e0 he0) (fun hf => k5 ?_)
        have := f_inj h.apart he0 hx hf
        subst this
        exact ⟨rfl, rfl⟩
    apart := by rw [map_f_putN]; exact h.apart
    ok := fun e he => by
      obtain ⟨e0, he0, k1, k2, k3, k4⟩ := mem_putN he
      obtain ⟨o1, o2, o3, o4, o5, o6⟩ := h.ok e0 he0
      unfold Ent.ok
      rw [k2, k3]
      rcases k4 with ⟨k4, _⟩ | ⟨k4, _⟩ <;> rw [k4]
      · exact ⟨o1, o2, o3, o4, h0, h1⟩
      · exact ⟨o1, o2, o3, o4, o5, o6⟩ }

theorem of_putN {b bm : Nat} {m : List Ent} {d l v : Int} {k : Nat} (h : FBox.of b bm (putN m d l v) k) : FBox.of b bm m k := by
  rcases h with rfl | rfl | ⟨e, he, rfl⟩
  · exact .inl rfl
  · exact .inr (.inl rfl)
  · obtain ⟨e0, he0, k1, _⟩ := mem_putN he
    exact .inr (.inr ⟨e0, he0, k1⟩)

/-- What Ask answers, and the number behind. -/
def askR (n now : Int) : Int := if n % 4 = 0 then 0 else if now < n / 4 then 170 else 0
def askN (n now rest : Int) : Int := if n % 4 = 0 then n else if now < n / 4 then n else (now + rest) * 4 + 2
/-- The number behind Did. -/
def didN (n : Int) (well : Bool) (now most rest : Int) : Int :=
  if n % 4 = 1 then n else if well = true then 0 else if n % 4 = 0 ∧ n / 4 + 1 < most then (n / 4 + 1) * 4 else (now + rest) * 4 + 1
/-- Another number at one spot. -/
def upd (st : Int → Int → Int) (d l v : Int) : Int → Int → Int := fun d' l' => if d' = d ∧ l' = l then v else st d' l'

theorem upd_same {st : Int → Int → Int} {d l : Int} : upd st d l (st d l) = st := by
  funext d' l'
  unfold upd
  split <;> rename_i h
  · rw [h.1, h.2]
  · rfl

#print axioms at_ok
#print axioms FBox.setN
end Go.Proofs.Ytckmjglomofooaa
