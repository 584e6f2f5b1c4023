/-
  'FusePlays' is proved: whatever the input, the law returns true, and each argument reads behind the call as it read before. No condition.
-/
import Derived.Test.YtckmjglomofooaaRows
import Derived.Test.YtckmjglomofooaaGl
import Derived.Deep.Slices
import Derived.ProofKit
import Derived.OpenShut
namespace Go.Proofs.Ytckmjglomofooaa
open Go.ChangeShapes Go.WideShapes Go.ChangeAt Go.RowKit

theorem cells34 : Try.prog.cellsOf 34 = 6 := by kernel_rfl
theorem cells4 : Try.prog.cellsOf 4 = 1 := by kernel_rfl

set_option maxRecDepth 100000 in
theorem dos_arg {H : Type} {enc : TypeId × Value → H} {W : World} {r : Reach} {base : Nat} {v : Value} {d : DataW H} {p : List MemPlace} (hval : Value.okWide Try.prog W r base 22 v) (h : DataW.Trod enc Try.prog W 0 (fun _ => true) true 22 v d p) :
    ∃ a len cap, v = .slice a len cap ∧ DosAt W a len ∧ len ≤ 9223372036854775807 := by
  obtain ⟨a, len, cap, rfl⟩ := okWide_slice Try.underlying22 hval
  obtain ⟨fuel, hf⟩ := h
  rcases Deep.open_slice Try.underlying22 hf with ⟨hcs, hx⟩ | ⟨a', len', cap', m, n, D, Pl, hcs, _, hl, hm, hmm, hx, hel⟩
  · simp [Value.cells] at hcs
    obtain ⟨rfl, rfl, rfl⟩ := hcs
    exact ⟨_, _, _, rfl, fun h => (Nat.lt_irrefl _ h).elim, by omega⟩
  · simp [Value.cells] at hcs
    obtain ⟨rfl, rfl, rfl⟩ := hcs
    refine ⟨_, _, _, rfl, fun hlen => ?_, by unfold maxLen at *; omega⟩
    have hmc : m = cap := by rw [hmm, if_pos rfl]
    have each : ∀ j, j < len → ∃ (did well raw : Bool) (x y z : Int), W.cell? (a'.add (j * 6)) = some (.bool did) ∧ W.cell? (a'.add (j * 6 + 1)) = some (.bool well) ∧ W.cell? (a'.add (j * 6 + 2)) = some (.bool raw) ∧ W.cell? (a'.add (j * 6 + 3)) = some (.int .i64 x) ∧ W.cell? (a'.add (j * 6 + 4)) = some (.int .i64 y) ∧ W.cell? (a'.add (j * 6 + 5)) = some (.int .i64 z) ∧
        (Lit.int .i64 x).wf = true ∧ (Lit.int .i64 y).wf = true ∧ (Lit.int .i64 z).wf = true := fun j hj => by
      obtain ⟨cs, h1, h2⟩ := hel j (by omega)
      rw [cells34] at h1
      obtain ⟨_, hcl, hcell⟩ := World.cells?_some h1
      obtain ⟨xs, k, hk, hxy, _, hxl, hf⟩ := DataW.trod_struct Try.underlying34 h2
      match xs, hxl, cs, hcl with
      | [y0, y1, y2, y3, y4], _, [v0, v1, v2, v3, v4, v5], _ =>
        have g0 := hf 0 _ rfl
        have g1 := hf 1 _ rfl
        have g2 := hf 2 _ rfl
        have g3 := hf 3 _ rfl
        have g4 := hf 4 _ rfl
        simp [Try.cells3, cells4, Try.cells32] at g0 g1 g2 g3 g4
        obtain ⟨xs2, k2, hk2, _, _, hxl2, hf2⟩ := DataW.trod_struct Try.underlying32 g3
        match xs2, hxl2 with
        | [u0, u1], _ =>
          have e0 := hf2 0 _ rfl
          have e1 := hf2 1 _ rfl
          simp [Try.cells3, Try.cells30] at e0 e1
          obtain ⟨x, q0, _, w0⟩ := DataW.trod_int Try.underlying3 e0
          obtain ⟨y, q1, _, w1⟩ := DataW.trod_int Try.underlying30 e1
          obtain ⟨z, q2, _, w2⟩ := DataW.trod_int Try.underlying3 g4
          obtain ⟨b0, p0, _⟩ := DataW.trod_bool Try.underlying4 g0
          obtain ⟨b1, p1, _⟩ := DataW.trod_bool Try.underlying4 g1
          obtain ⟨b2, p2, _⟩ := DataW.trod_bool Try.underlying4 g2
          have c0 := hcell 0 (by omega)
          have c1 := hcell 1 (by omega)
          have c2 := hcell 2 (by omega)
          have c3 := hcell 3 (by omega)
          have c4 := hcell 4 (by omega)
          have c5 := hcell 5 (by omega)
          rw [Deep.add_add] at c0 c1 c2 c3 c4 c5
          simp at q0 q1 q2 p0 p1 p2 c0 c1 c2 c3 c4 c5
          subst q0; subst q1; subst q2; subst p0; subst p1; subst p2
          exact ⟨b0, b1, b2, x, y, z, c0, c1, c2, c3, c4, c5, w0, w1, w2⟩
    obtain ⟨b, off, spot⟩ := a'
    obtain ⟨b0, b1, b2, x, _, _, hx0, _⟩ := each 0 hlen
    have hspot : spot = none := by simpa [Addr.add] using World.cell?_spot hx0
    subst hspot
    rw [add_plain] at hx0
    refine ⟨b, off, rfl, World.block_lt_of_cell? _ _ hx0, fun j hj => ?_⟩
    obtain ⟨b0, b1, b2, x, y, z, k0, k1, k2, k3, k4, k5, w0, w1, w2⟩ := each j hj
    rw [add_plain] at k0 k1 k2 k3 k4 k5
    exact ⟨b0, b1, b2, x, y, z, k0, k1, k2, k3, k4, k5, bounds_i64 w0, bounds_i64 w1, bounds_i64 w2⟩

set_option maxRecDepth 100000 in
theorem plays_lifted (os : Os) (started : os.Started) (H : Type) (enc : TypeId × Value → H) :
    ReturnsInHanded {} Try.checked os 3 .any (Rows.fusePlaysSpec.pre6 enc Try.prog Try.f3 Rows.fusePlaysRow.domain false) (Rows.fusePlaysSpec.post enc Try.prog Try.f3 false true false false) := by
  refine returnsInHanded_of_change (C := Try.checked) Try.own started (by kernel_rfl) Try.func3
    (ChangeSpec.witness6 (enc := enc) (C := Try.checked) false ⟨#[], #[.int .i64 0, .int .i64 0, .slice none 0 0], []⟩ 8 (by kernel_rfl) (by kernel_rfl) (by kernel_rfl) (by kernel_rfl)) ?_
  intro W base args ds gs before hval0 hW hcnd _
  have hval : ∀ (j : Nat) t v, Try.f3.params[j]? = some t → args[j]? = some v → Value.okWide Try.prog W .any base t v := hval0
  have hW' := hW
  obtain ⟨p, q, hA0, hV, rfl, hfz, hnd⟩ := hW
  have hA : DataW.TrodAll enc Try.prog W 0 (fun _ => true) true Try.f3.params.toList args.toList ds p := hA0
  rw [Try.params3] at hA hval
  obtain ⟨v0, v1, v2, d0, d1, d2, p0, p1, p2, rfl, rfl, rfl, h0, h1, h2⟩ := trodAll_three hA
  obtain ⟨rfl, rfl⟩ := trodVars_none hV
  obtain ⟨a, rfl, rfl, rfl, wa⟩ := open_int Try.underlying3 (hval 0 3 v0 rfl rfl) h0
  obtain ⟨c, rfl, rfl, rfl, wc⟩ := open_int Try.underlying3 (hval 1 3 v1 rfl rfl) h1
  obtain ⟨sa, len, cap, rfl, hC, hlen⟩ := dos_arg (hval 2 22 v2 rfl rfl) h2
  clear hA0 hval0
  refine (plays_any a c sa len cap W hC hlen).mono fun e W' ⟨he, hw⟩ => ?_
  subst he
  have hlt : ∀ x ∈ p2, x.block < W.heap.size := fun x hx => hW'.lt x (by simp [hx])
  have h2' := Below.trod Try.laidOut (by kernel_rfl) (of_decide_eq_true (by kernel_rfl)) h2 hw hlt
  exact ⟨_, rfl, _, _, _, [], _, [], hW', trodAll_mk1 (shut_bool Try.underlying4 true), trodAll_mk3 (shut_int Try.underlying3 wa) (shut_int Try.underlying3 wc) h2', rfl, hw.frame _, fun h => by cases h⟩

theorem plays_holds : Rows.FusePlaysSaid :=
  OpenClaim.holds_of_wide 3 Try.f3 rfl rfl rfl rfl rfl rfl rfl ⟨rfl, rfl, rfl, rfl, rfl⟩ rfl rfl rfl rfl rfl (by kernel_rfl) Try.func3 (by kernel_rfl)
    (of_decide_eq_true (by kernel_rfl)) (by unfold Func.isWrapper; first | (rw [if_pos (by decide +kernel)]; kernel_rfl) | (rw [if_neg (by decide +kernel)]; exact ⟨rfl, rfl⟩))
    (fun os started H enc _ => plays_lifted os started H enc)
#print axioms plays_holds
end Go.Proofs.Ytckmjglomofooaa
