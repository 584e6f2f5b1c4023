/-
  The fuse seat: the reference box: State.
-/
import Derived.Test.YtckmjglomofooaaGc
namespace Go.Proofs.Ytckmjglomofooaa
open Go.RowKit

theorem RBox.kept {w w' : World} {m : Nat} {v : Value} {most rest now : Int} {L : List Rfz} {G : Nat → Prop} (h : RBox w m v most rest now L) (hf : Fr w w' G) (hm : ¬ G m) (hv : ∀ g, v.ownBlock = some g → ¬ G g) : RBox w' m v most rest now L := by
  refine ⟨(hf.block m (lt_of_some h.box) hm).trans h.box, ⟨h.row.1, ?_⟩, h.apart⟩
  rcases h.row.2 with h0 | ⟨g, cap, cur, rfl, h1, hg, h2⟩
  · exact .inl h0
  · exact .inr ⟨g, cap, cur, rfl, h1, (hf.block g (lt_of_some hg) (hv g rfl)).trans hg, h2⟩

set_option maxRecDepth 100000 in
theorem rstate_any {w : World} {m : Nat} {v : Value} {most rest now : Int} {L : List Rfz} (h : RBox w m v most rest now L) {st : Int → Int → Int} (hst : ROf L st) (d l : Int) :
    Calls Try.prog 30 #[.pointer (some ⟨m, 0, none⟩), .agg #[.int .i64 d, .int .i64 l]] w fun e w' => e = .returned (.tuple #[.int .i64 (stS (st d l)), .int .i64 (stF (st d l)), .int .i64 (stU (st d l))]) ∧ Fr w w' (fun _ => False) := by
  have h1 : RBox (w.alloc (.cells #[.int .i64 d, .int .i64 l] 32)) m v most rest now L := h.kept ((Fr.refl w (fun _ => False)).alloc _) (fun h => h) (fun _ _ h => h)
  have HC := Lib.hid (rat_any h1 hst d l)
  clear h h1 hst
  generalize stS (st d l) = a at *
  generalize stF (st d l) = b at *
  generalize stU (st d l) = c at *
  go_enter Try.func30, Try.ntmps30
  go_wp2_with fail
  refine (HC.out).mono ?_
  rintro e w1 ⟨rfl, f1⟩
  have HF := Lib.hid (((Fr.refl w (fun _ => False)).alloc (.cells #[.int .i64 d, .int .i64 l] 32)).trans f1 (fun _ _ h => h))
  clear f1 HC
  go_wp2_with fail
  go_quiet (fail)
  go_wp2
  go_ret3
  exact ⟨rfl, (HF.out.alloc _).drewN _⟩
end Go.Proofs.Ytckmjglomofooaa
