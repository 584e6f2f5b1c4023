/-
  'FuseTicks' is proved: whatever the input, the law returns true, and each argument reads behind the call as it read before. No condition.
-/
import Derived.Test.YtckmjglomofooaaRows
import Derived.Test.YtckmjglomofooaaFp
import Derived.Test.YtckmjglomofooaaKeeps
import Derived.Deep.Slices
import Derived.ProofKit
import Derived.OpenShut
namespace Go.Proofs.Ytckmjglomofooaa
open Go.ChangeShapes Go.WideShapes Go.ChangeAt Go.RowKit

theorem cells48 : Try.prog.cellsOf 48 = 3 := by kernel_rfl

set_option maxRecDepth 100000 in
theorem calls_arg {H : Type} {enc : TypeId × Value → H} {W : World} {r : Reach} {base : Nat} {v : Value} {d : DataW H} {p : List MemPlace} (hval : Value.okWide Try.prog W r base 45 v) (h : DataW.Trod enc Try.prog W 0 (fun _ => true) true 45 v d p) :
    ∃ a len cap, v = .slice a len cap ∧ CallsAt W a len := by
  obtain ⟨a, len, cap, rfl⟩ := okWide_slice Try.underlying45 hval
  obtain ⟨fuel, hf⟩ := h
  rcases Deep.open_slice Try.underlying45 hf with ⟨hcs, hx⟩ | ⟨a', len', cap', m, n, D, Pl, hcs, _, hl, hm, hmm, hx, hel⟩
  · simp [Value.cells] at hcs
    obtain ⟨rfl, rfl, rfl⟩ := hcs
    exact ⟨_, _, _, rfl, fun h => (Nat.lt_irrefl _ h).elim⟩
  · simp [Value.cells] at hcs
    obtain ⟨rfl, rfl, rfl⟩ := hcs
    refine ⟨_, _, _, rfl, fun hlen => ?_⟩
    have hmc : m = cap := by rw [hmm, if_pos rfl]
    have each : ∀ j, j < len → ∃ x y z, W.cell? (a'.add (j * 3)) = some (.int .i64 x) ∧ W.cell? (a'.add (j * 3 + 1)) = some (.int .i64 y) ∧ W.cell? (a'.add (j * 3 + 2)) = some (.int .i64 z) ∧
        (Lit.int .i64 x).wf = true ∧ (Lit.int .i64 y).wf = true ∧ (Lit.int .i64 z).wf = true := fun j hj => by
      obtain ⟨cs, h1, h2⟩ := hel j (by omega)
      rw [cells48] at h1
      obtain ⟨_, hcl, hcell⟩ := World.cells?_some h1
      obtain ⟨xs, k, hk, hxy, _, hxl, hf⟩ := DataW.trod_struct Try.underlying48 h2
      match xs, hxl, cs, hcl with
      | [y0, y1, y2], _, [v0, v1, v2], _ =>
        have g0 := hf 0 _ rfl
        have g1 := hf 1 _ rfl
        have g2 := hf 2 _ rfl
        simp [cells3] at g0 g1 g2
        obtain ⟨x, e0, _, w0⟩ := DataW.trod_int Try.underlying3 g0
        obtain ⟨y, e1, _, w1⟩ := DataW.trod_int Try.underlying3 g1
        obtain ⟨z, e2, _, w2⟩ := DataW.trod_int Try.underlying3 g2
        have c0 := hcell 0 (by omega)
        have c1 := hcell 1 (by omega)
        have c2 := hcell 2 (by omega)
        rw [Deep.add_add] at c0 c1 c2
        simp at e0 e1 e2 c0 c1 c2
        subst e0; subst e1; subst e2
        exact ⟨x, y, z, c0, c1, c2, w0, w1, w2⟩
    obtain ⟨b, off, spot⟩ := a'
    obtain ⟨x, _, _, hx0, _⟩ := each 0 hlen
    have hspot : spot = none := by simpa [Addr.add] using World.cell?_spot hx0
    subst hspot
    rw [add_plain] at hx0
    refine ⟨b, off, rfl, World.block_lt_of_cell? _ _ hx0, fun j hj => ?_⟩
    obtain ⟨x, y, z, k0, k1, k2, w0, w1, w2⟩ := each j hj
    rw [add_plain] at k0 k1 k2
    exact ⟨x, y, z, k0, k1, k2, bounds_i64 w0, bounds_i64 w1, bounds_i64 w2⟩

set_option maxRecDepth 100000 in
theorem ticks_lifted (os : Os) (started : os.Started) (H : Type) (enc : TypeId × Value → H) :
    ReturnsInHanded {} Try.checked os 7 .any (Rows.fuseTicksSpec.pre6 enc Try.prog Try.f7 Rows.fuseTicksRow.domain false) (Rows.fuseTicksSpec.post enc Try.prog Try.f7 false true false false) := by
  refine returnsInHanded_of_change (C := Try.checked) Try.own started (by kernel_rfl) Try.func7
    (ChangeSpec.witness6 (enc := enc) (C := Try.checked) false ⟨#[], #[.slice none 0 0, .slice none 0 0], []⟩ 8 (by kernel_rfl) (by kernel_rfl) (by kernel_rfl) (by kernel_rfl)) ?_
  intro W base args ds gs before hval0 hW hcnd _
  have hval : ∀ (j : Nat) t v, Try.f7.params[j]? = some t → args[j]? = some v → Value.okWide Try.prog W .any base t v := hval0
  have hW' := hW
  obtain ⟨p, q, hA0, hV, rfl, hfz, hnd⟩ := hW
  have hA : DataW.TrodAll enc Try.prog W 0 (fun _ => true) true Try.f7.params.toList args.toList ds p := hA0
  rw [Try.params7] at hA hval
  obtain ⟨v0, v1, d0, d1, p0, p1, rfl, rfl, rfl, h0, h1⟩ := trodAll_two hA
  obtain ⟨rfl, rfl⟩ := trodVars_none hV
  obtain ⟨sa, len, cap, rfl, hC⟩ := calls_arg (hval 0 45 v0 rfl rfl) h0
  obtain ⟨sa2, len2, cap2, rfl, hI, _⟩ := ints_arg (hval 1 55 v1 rfl rfl) h1
  clear hA0 hval0
  refine (ticks_any sa sa2 len cap len2 cap2 W hC hI).mono fun e W' ⟨he, hw⟩ => ?_
  subst he
  have hlt0 : ∀ x ∈ p0, x.block < W.heap.size := fun x hx => hW'.lt x (by simp [hx])
  have hlt1 : ∀ x ∈ p1, x.block < W.heap.size := fun x hx => hW'.lt x (by simp [hx])
  have h0' := Below.trod Try.laidOut (by kernel_rfl) (of_decide_eq_true (by kernel_rfl)) h0 hw hlt0
  have h1' := Below.trod Try.laidOut (by kernel_rfl) (of_decide_eq_true (by kernel_rfl)) h1 hw hlt1
  exact ⟨_, rfl, _, _, _, [], _, [], hW', trodAll_mk1 (shut_bool Try.underlying4 true), trodAll_mk2 h0' h1', rfl, hw.frame _, fun h => by cases h⟩

theorem ticks_holds : Rows.FuseTicksSaid :=
  OpenClaim.holds_of_wide 7 Try.f7 rfl rfl rfl rfl rfl rfl rfl ⟨rfl, rfl, rfl, rfl, rfl⟩ rfl rfl rfl rfl rfl (by kernel_rfl) Try.func7 (by kernel_rfl)
    (of_decide_eq_true (by kernel_rfl)) (by unfold Func.isWrapper; first | (rw [if_pos (by decide +kernel)]; kernel_rfl) | (rw [if_neg (by decide +kernel)]; exact ⟨rfl, rfl⟩))
    (fun os started H enc _ => ticks_lifted os started H enc)
#print axioms ticks_holds
end Go.Proofs.Ytckmjglomofooaa
