/-
  The fuse seat: the reference box: Spots.
-/
import Derived.Test.YtckmjglomofooaaGd
import Derived.OwnWalk
namespace Go.Proofs.Ytckmjglomofooaa
open Go.RowKit

/-- The spots of a list of fuses. -/
def spotsOf (L : List Rfz) : List (Int × Int) := L.map (fun x => (x.d, x.l))

set_option maxRecDepth 100000 in
set_option maxHeartbeats 2000000 in
theorem rspots_any {w : World} {m : Nat} {v : Value} {most rest now : Int} {L : List Rfz} (h : RBox w m v most rest now L) (hlen : L.length ≤ 100000) :
    Calls Try.prog 31 #[.pointer (some ⟨m, 0, none⟩)] w fun e w' => ∃ u, e = .returned u ∧ w'.ownsRow w.heap.size 32 2 u (spotsOf L).length (flat (spotsOf L)) ∧ Below w.heap.size w w' := by
  obtain ⟨i0, hi, hz0, hz1, hz2⟩ := info_parts Try.info32
  obtain ⟨p, cap, rfl, _, hrow⟩ := h.slice
  have hm := lt_of_some h.box
  have c0 : w.cell? ⟨m, 3, none⟩ = some (.slice p L.length cap) := by rw [cell_of_block h.box]; rfl
  have HR := Lib.hid hrow
  have HI := Lib.hid hi
  have HZ0 := Lib.hid hz0
  have HZ1 := Lib.hid hz1
  have HZ2 := Lib.hid hz2
  have C0 := Lib.hid c0
  clear hrow hi hz0 hz1 hz2 c0 h
  go_enter Try.func31, Try.ntmps31
  go_wp2_with fail
  go_loopw [3, 4] (fun ov iv wr => ∃ k : Nat, iv = .int .i64 k ∧ k ≤ L.length ∧ wr.ownsRow w.heap.size 32 2 ov (spotsOf (L.take k)).length (flat (spotsOf (L.take k))) ∧ Below w.heap.size w wr) (fun _ iv _ => L.length - (intOf iv).toNat)
  case atStart => exact ⟨0, rfl, by omega, World.ownsRow_nil _ _ _ _, Below.refl _ _⟩
  case round =>
    obtain ⟨k, rfl, hk, k2, k4⟩ := hrel
    have c0 : wr.cell? ⟨m, 3, none⟩ = some (.slice p L.length cap) := by rw [k4.cell (by exact hm)]; exact C0.out
    by_cases hl : k < L.length
    · have hl2 : (k : Int) < (L.length : Int) := by omega
      obtain ⟨x, hx⟩ : ∃ x, L[k]? = some x := ⟨_, List.getElem?_eq_getElem hl⟩
      rcases HR.out with rfl | ⟨g, rfl, hgm, hg, hcells⟩
      · simp at hl
      have x0 : wr.cell? ⟨g, k * 5, none⟩ = some (.int .i64 x.d) := by rw [k4.cell (by exact hg)]; simpa using hcells k x hx 0 _ rfl
      have x1 : wr.cell? ⟨g, k * 5 + 1, none⟩ = some (.int .i64 x.l) := by rw [k4.cell (by exact hg)]; simpa using hcells k x hx 1 _ rfl
      have HX := Lib.hid hx
      have htk : (L.take k).length = k := by simp; omega
      have hsl : (spotsOf (L.take k)).length = k := by unfold spotsOf; rw [List.length_map, htk]
      rw [hsl] at k2
      clear hcells hx
      go_wp2_with (at_builtin; refine wpList_append_own _ rfl _ _ 56 rfl w.heap.size 32 i0 (.agg #[.int .i64 0, .int .i64 0]) 2 16 Try.underlying56 HI.out HZ0.out HZ1.out HZ2.out rfl (by decide) _ _ _ rfl (k2.alloc _) ⟨wr.heap.size, 0, none⟩ 1 1 [.int .i64 x.d, .int .i64 x.l] rfl rfl ?c1 ?c2 ?c3 ?c4 ?c5 ?_)
      case c1 =>
        intro j u hj
        rw [addr_add, cell_of_block (heap_new wr (.cells #[.int .i64 x.d, .int .i64 x.l] 32)), ← hj]
        simp
      case c2 => intro u hu; simp at hu; rcases hu with rfl | rfl <;> rfl
      case c3 => unfold maxLen; omega
      case c4 => omega
      case c5 => have := k4.size; simp; omega
      intro v' w2 hown' hgrow hnil
      have m2 : Below w.heap.size w w2 := (k4.alloc k4.size _).grown hgrow (by have := k4.size; simp; omega) (fun k hk => (k2.lt k hk).1)
      have M2 := Lib.hid m2
      have HO2 := Lib.hid hown'
      clear m2 hown' hgrow hnil
      go_wp2
      go_roundw
      case rel =>
        refine ⟨k + 1, by go_num, by omega, ?_, M2.out⟩
        have e1 : spotsOf (L.take (k + 1)) = spotsOf (L.take k) ++ [(x.d, x.l)] := by
          unfold spotsOf
          rw [List.take_add_one, HX.out, List.map_append]
          rfl
        rw [e1, flat_append, List.length_append, hsl]
        exact HO2.out
      case measure => simp [intOf]; omega
    · have hk2 : k = L.length := by omega
      subst hk2
      rw [List.take_length] at k2
      have K2 := Lib.hid k2
      clear k2
      go_wp2
      go_ret
      exact ⟨_, rfl, K2.out, k4⟩
#print axioms rspots_any
end Go.Proofs.Ytckmjglomofooaa
