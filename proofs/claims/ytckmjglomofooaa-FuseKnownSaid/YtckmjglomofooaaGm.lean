/-
  The fuse seat: boxes that are none: nil, and the zero box.
-/
import Derived.Test.YtckmjglomofooaaGl
namespace Go.Proofs.Ytckmjglomofooaa
open Go.RowKit

/-- No box: nil, or one that New has not made. -/
def NoneB (p : Option Addr) (w : World) : Prop := p = none ∨ ∃ b, p = some ⟨b, 0, none⟩ ∧ w.heap[b]? = some (.cells #[.int .i64 0, .int .i64 0, .int .i64 0, .map none] 68 (0, 0))

theorem NoneB.kept {p : Option Addr} {w w' : World} (h : NoneB p w) (f : Fr w w' (fun _ => False)) : NoneB p w' := by
  rcases h with rfl | ⟨b, rfl, hb⟩
  · exact .inl rfl
  · exact .inr ⟨b, rfl, (f.block b (lt_of_some hb) (fun h => h)).trans hb⟩

theorem none_no {p : Option Addr} {w : World} (h : NoneB p w) : Calls Try.prog 32 #[.pointer p] w fun e w' => e = .returned (.bool true) ∧ w = w' := by
  rcases h with rfl | ⟨b, rfl, hb⟩
  · exact none_nil w
  · have c3 : w.cell? ⟨b, 3, none⟩ = some (.map none) := by rw [cell_of_block hb]; rfl
    have q := q66
    clear hb
    go_enter Try.func32, Try.ntmps32
    go_wp2
    go_ret
    exact ⟨rfl, rfl⟩

theorem at_no {p : Option Addr} {w : World} (h : NoneB p w) (d l tick : Int) : Calls Try.prog 24 #[.pointer p, .agg #[.int .i64 d, .int .i64 l], .int .i64 tick] w fun e w' => e = .returned (.tuple #[.pointer none, .int .i64 0, .int .i64 1]) ∧ Fr w w' (fun _ => False) := by
  have f : Fr w (w.alloc (.cells #[.int .i64 d, .int .i64 l] 32)) (fun _ => False) := (Fr.refl _ _).alloc _
  have C := Lib.hid (none_no (h.kept f))
  clear h f
  go_enter Try.func24, Try.ntmps24
  go_wp2_with (go_at_call 32; refine (C.out).mono ?_; rintro e w' ⟨rfl, rfl⟩)
  go_ret3
  exact ⟨rfl, (Fr.refl _ _).alloc _⟩

set_option maxRecDepth 100000 in
theorem ask_no {p : Option Addr} {w : World} (h : NoneB p w) (d l tick : Int) : Calls Try.prog 14 #[.pointer p, .agg #[.int .i64 d, .int .i64 l], .int .i64 tick] w fun e w' => e = .returned (.int .i64 1) ∧ Fr w w' (fun _ => False) := by
  have f : Fr w (w.alloc (.cells #[.int .i64 d, .int .i64 l] 32)) (fun _ => False) := (Fr.refl _ _).alloc _
  have C := Lib.hid (at_no (h.kept f) d l tick)
  have F := Lib.hid f
  clear h f
  go_enter Try.func14, Try.ntmps14
  go_wp2_with fail
  refine (C.out).mono ?_
  rintro e w1 ⟨rfl, f1⟩
  go_wp2
  go_ret
  exact ⟨rfl, F.out.trans f1 (fun _ _ h => h)⟩

set_option maxRecDepth 100000 in
theorem did_no {p : Option Addr} {w : World} (h : NoneB p w) (d l tick : Int) (well : Bool) : Calls Try.prog 12 #[.pointer p, .agg #[.int .i64 d, .int .i64 l], .bool well, .int .i64 tick] w fun e w' => e = .returned (.int .i64 1) ∧ Fr w w' (fun _ => False) := by
  have f : Fr w (w.alloc (.cells #[.int .i64 d, .int .i64 l] 32)) (fun _ => False) := (Fr.refl _ _).alloc _
  have C := Lib.hid (at_no (h.kept f) d l tick)
  have F := Lib.hid f
  clear h f
  go_enter Try.func12, Try.ntmps12
  go_wp2_with fail
  refine (C.out).mono ?_
  rintro e w1 ⟨rfl, f1⟩
  go_wp2
  go_ret
  exact ⟨rfl, F.out.trans f1 (fun _ _ h => h)⟩

set_option maxRecDepth 100000 in
theorem state_no {p : Option Addr} {w : World} (h : NoneB p w) (d l : Int) : Calls Try.prog 20 #[.pointer p, .agg #[.int .i64 d, .int .i64 l]] w fun e w' => e = .returned (.tuple #[.int .i64 0, .int .i64 0, .int .i64 0]) ∧ Fr w w' (fun _ => False) := by
  have f : Fr w (w.alloc (.cells #[.int .i64 d, .int .i64 l] 32)) (fun _ => False) := (Fr.refl _ _).alloc _
  have C := Lib.hid (none_no (h.kept f))
  have CD := Lib.hid (fun n => none_no ((h.kept f).kept ((Fr.refl _ (fun _ => False)).drewN n)))
  clear h f
  go_enter Try.func20, Try.ntmps20
  go_wp2_with fail
  go_quiet ((go_at_call 32; exact Calls.quiet_of_same ((CD.out _).mono fun _ _ ⟨a, b⟩ => ⟨a, b.symm⟩)))
  go_wp2
  go_ret3
  exact ⟨rfl, ((Fr.refl w _).alloc _).drewN _⟩

set_option maxRecDepth 100000 in
theorem stands_no {p : Option Addr} {w : World} (h : NoneB p w) (d l : Int) : Calls Try.prog 21 #[.pointer p, .agg #[.int .i64 d, .int .i64 l], .int .i64 0, .int .i64 0, .int .i64 0] w fun e w' => e = .returned (.bool true) ∧ Fr w w' (fun _ => False) := by
  have f : Fr w (w.alloc (.cells #[.int .i64 d, .int .i64 l] 32)) (fun _ => False) := (Fr.refl _ _).alloc _
  have C := Lib.hid (state_no (h.kept f) d l)
  have F := Lib.hid f
  clear h f
  go_enter Try.func21, Try.ntmps21
  go_wp2_with fail
  refine (C.out).mono ?_
  rintro e w1 ⟨rfl, f1⟩
  go_wp2
  go_ret
  exact ⟨rfl, F.out.trans f1 (fun _ _ h => h)⟩

set_option maxRecDepth 100000 in
theorem spots_no {p : Option Addr} {w : World} (h : NoneB p w) : Calls Try.prog 22 #[.pointer p] w fun e w' => e = .returned (.slice none 0 0) ∧ w = w' := by
  have C := Lib.hid (none_no h)
  clear h
  go_enter Try.func22, Try.ntmps22
  go_wp2_with fail
  refine (C.out).mono ?_
  rintro e w1 ⟨rfl, rfl⟩
  go_wp2
  go_ret
  exact ⟨rfl, rfl⟩

theorem tick_no {p : Option Addr} {w : World} (h : NoneB p w) : Calls Try.prog 23 #[.pointer p] w fun e w' => e = .returned (.int .i64 0) ∧ w = w' := by
  have C := Lib.hid (none_no h)
  clear h
  go_enter Try.func23, Try.ntmps23
  go_wp2_with fail
  refine (C.out).mono ?_
  rintro e w1 ⟨rfl, rfl⟩
  go_wp2
  go_ret
  exact ⟨rfl, rfl⟩

theorem Fr.belowF {w w' : World} {n : Nat} (f : Fr w w' (fun _ => False)) (hn : n ≤ w.heap.size) : Below n w w' := f.to_below hn (fun _ _ h => h)

theorem DosAt.below {w w' : World} {p : Option Addr} {len : Nat} (h : DosAt w p len) (hb : Below w.heap.size w w') : DosAt w' p len := by
  intro hl
  obtain ⟨b, off, rfl, hlt, hc⟩ := h hl
  refine ⟨b, off, rfl, Nat.lt_of_lt_of_le hlt hb.size, fun j hj => ?_⟩
  obtain ⟨did, well, raw, x, y, z, c0, c1, c2, c3, c4, c5, hw⟩ := hc j hj
  refine ⟨did, well, raw, x, y, z, ?_, ?_, ?_, ?_, ?_, ?_, hw⟩ <;> (rw [hb.cell (by exact hlt)]; assumption)

theorem five_dos (w : World) (n : Int) (hn : -9223372036854775808 ≤ n ∧ n ≤ 9223372036854775807) :
    DosAt (w.alloc (.cells #[.bool true, .bool false, .bool false, .int .i64 n, .int .i64 0, .int .i64 0, .bool true, .bool false, .bool false, .int .i64 0, .int .i64 n, .int .i64 0, .bool false, .bool false, .bool true, .int .i64 0, .int .i64 0, .int .i64 n, .bool true, .bool false, .bool true, .int .i64 0, .int .i64 0, .int .i64 n, .bool false, .bool false, .bool false, .int .i64 0, .int .i64 0, .int .i64 1] 34)) (some ⟨w.heap.size, 0, none⟩) 5 := by
  intro _
  refine ⟨w.heap.size, 0, rfl, by simp, fun j hj => ?_⟩
  have hj' : j = 0 ∨ j = 1 ∨ j = 2 ∨ j = 3 ∨ j = 4 := by omega
  rcases hj' with rfl | rfl | rfl | rfl | rfl
  · exact ⟨true, false, false, n, 0, 0, by simp, by simp, by simp, by simp, by simp, by simp, hn, by omega, by omega⟩
  · exact ⟨true, false, false, 0, n, 0, by simp, by simp, by simp, by simp, by simp, by simp, by omega, hn, by omega⟩
  · exact ⟨false, false, true, 0, 0, n, by simp, by simp, by simp, by simp, by simp, by simp, by omega, by omega, hn⟩
  · exact ⟨true, false, true, 0, 0, n, by simp, by simp, by simp, by simp, by simp, by simp, by omega, by omega, hn⟩
  · exact ⟨false, false, false, 0, 0, 1, by simp, by simp, by simp, by simp, by simp, by simp, by omega, by omega, by omega⟩

set_option maxRecDepth 100000 in
set_option maxHeartbeats 4000000 in
theorem known_any (w : World) : Calls Try.prog 8 #[] w fun e w' => e = .returned (.bool true) ∧ Below w.heap.size w w' := by
  go_enter Try.func8, Try.ntmps8
  have hE : ∀ k, k < 14 → ∃ n, (w.alloc (.cells #[.int .i64 (-9223372036854775808), .int .i64 (-1), .int .i64 0, .int .i64 1, .int .i64 2, .int .i64 9, .int .i64 10, .int .i64 1000, .int .i64 1001, .int .i64 1000000, .int .i64 1000001, .int .i64 4503599627370496, .int .i64 4503599627370497, .int .i64 9223372036854775807] 3)).cell? ⟨w.heap.size, k, none⟩ = some (.int .i64 n) ∧ -9223372036854775808 ≤ n ∧ n ≤ 9223372036854775807 := by
    intro k hk
    have : k = 0 ∨ k = 1 ∨ k = 2 ∨ k = 3 ∨ k = 4 ∨ k = 5 ∨ k = 6 ∨ k = 7 ∨ k = 8 ∨ k = 9 ∨ k = 10 ∨ k = 11 ∨ k = 12 ∨ k = 13 := by omega
    rcases this with rfl | rfl | rfl | rfl | rfl | rfl | rfl | rfl | rfl | rfl | rfl | rfl | rfl | rfl <;> exact ⟨_, by simp; rfl, by decide, by decide⟩
  have HE := Lib.hid hE
  clear hE
  go_wp2_with fail
  have hW : Below w.heap.size w (w.alloc (.cells #[.int .i64 (-9223372036854775808), .int .i64 (-1), .int .i64 0, .int .i64 1, .int .i64 2, .int .i64 9, .int .i64 10, .int .i64 1000, .int .i64 1001, .int .i64 1000000, .int .i64 1000001, .int .i64 4503599627370496, .int .i64 4503599627370497, .int .i64 9223372036854775807] 3)) := (Below.refl _ w).alloc (Nat.le_refl _) _
  have hS : (w.alloc (.cells #[.int .i64 (-9223372036854775808), .int .i64 (-1), .int .i64 0, .int .i64 1, .int .i64 2, .int .i64 9, .int .i64 10, .int .i64 1000, .int .i64 1001, .int .i64 1000000, .int .i64 1000001, .int .i64 4503599627370496, .int .i64 4503599627370497, .int .i64 9223372036854775807] 3)).heap.size = w.heap.size + 1 := by simp
  have HW := Lib.hid hW
  have HS := Lib.hid hS
  clear hW hS
  generalize (w.alloc (.cells #[.int .i64 (-9223372036854775808), .int .i64 (-1), .int .i64 0, .int .i64 1, .int .i64 2, .int .i64 9, .int .i64 10, .int .i64 1000, .int .i64 1001, .int .i64 1000000, .int .i64 1000001, .int .i64 4503599627370496, .int .i64 4503599627370497, .int .i64 9223372036854775807] 3)) = W1 at *
  go_loopw [2] (fun iv wr => ∃ k : Nat, iv = .int .i64 k ∧ k ≤ 14 ∧ Hid (Below W1.heap.size W1 wr)) (fun iv _ => 14 - (intOf iv).toNat)
  case atStart => exact ⟨0, rfl, by omega, Lib.hid (Below.refl _ _)⟩
  case round =>
    obtain ⟨k, rfl, hk, hB⟩ := hrel
    by_cases hl : k < 14
    · have hl2 : (k : Int) < 14 := by omega
      obtain ⟨n, hc, hn⟩ := HE.out k hl
      have hc2 : wr.cell? ⟨w.heap.size, k, none⟩ = some (.int .i64 n) := by rw [hB.out.cell (by show w.heap.size < _; have := HS.out; omega)]; exact hc
      have D1 := five_dos wr n hn
      have C1 := Lib.hid (plays_any n 3 _ 5 5 _ D1 (by omega))
      have HD1 := Lib.hid D1
      have hz : wr.heap.size < (wr.alloc (.cells #[.bool true, .bool false, .bool false, .int .i64 n, .int .i64 0, .int .i64 0, .bool true, .bool false, .bool false, .int .i64 0, .int .i64 n, .int .i64 0, .bool false, .bool false, .bool true, .int .i64 0, .int .i64 0, .int .i64 n, .bool true, .bool false, .bool true, .int .i64 0, .int .i64 0, .int .i64 n, .bool false, .bool false, .bool false, .int .i64 0, .int .i64 0, .int .i64 1] 34)).heap.size := by simp
      have hB2 := hB.out.alloc hB.out.size (.cells #[.bool true, .bool false, .bool false, .int .i64 n, .int .i64 0, .int .i64 0, .bool true, .bool false, .bool false, .int .i64 0, .int .i64 n, .int .i64 0, .bool false, .bool false, .bool true, .int .i64 0, .int .i64 0, .int .i64 n, .bool true, .bool false, .bool true, .int .i64 0, .int .i64 0, .int .i64 n, .bool false, .bool false, .bool false, .int .i64 0, .int .i64 0, .int .i64 1] 34)
      have HB2 := Lib.hid hB2
      clear D1 hn hc hB2 hz
      go_wp2_with fail
      refine C1.out.mono ?_
      rintro e w2 ⟨rfl, b2⟩
      have D2 := HD1.out.below b2
      have B2 := HB2.out.trans (b2.mono HB2.out.size)
      have C2 := Lib.hid (plays_any 2 n _ 5 5 _ D2 (by omega))
      have HB3 := Lib.hid B2
      have HD2 := Lib.hid D2
      clear b2 D2 B2 C1 HD1 HB2 hc2
      go_wp2_with fail
      refine C2.out.mono ?_
      rintro e w3 ⟨rfl, b3⟩
      have D3 := HD2.out.below b3
      have B3 := HB3.out.trans (b3.mono HB3.out.size)
      have C3 := Lib.hid (plays_any 1 1000000 _ 5 5 _ D3 (by omega))
      have HB4 := Lib.hid B3
      clear b3 D3 B3 C2 HD2 HB3
      go_wp2_with fail
      refine C3.out.mono ?_
      rintro e w4 ⟨rfl, b4⟩
      have B4 := Lib.hid (HB4.out.trans (b4.mono HB4.out.size))
      clear b4 C3 HB4
      go_wp2_with fail
      go_roundw
      case rel => exact ⟨k + 1, by go_num, by omega, B4⟩
      case measure => simp [intOf]; omega
    · obtain rfl : k = 14 := by omega
      have hBW := Lib.hid (HW.out.trans (hB.out.mono (by have := HS.out; omega)))
      clear hB
      go_wp2_with fail
      go_loopw [5, 6] (fun pv iv wx => ∃ (p : Option Addr) (k : Nat), pv = .pointer p ∧ iv = .int .i64 k ∧ k ≤ 2 ∧ Hid (NoneB p wx ∧ Below w.heap.size w wx)) (fun _ iv _ => 2 - (intOf iv).toNat)
      case atStart => exact ⟨none, 0, rfl, rfl, by omega, Lib.hid ⟨.inl rfl, hBW.out⟩⟩
      case round =>
        obtain ⟨p, k, rfl, rfl, hk, hN⟩ := hrel
        by_cases hl : k < 2
        · have hl2 : (k : Int) < 2 := by omega
          go_wp2_with fail
          refine (ask_no hN.out.1 0 0 0).mono ?_
          rintro e w1 ⟨rfl, f1⟩
          have N1 := hN.out.1.kept f1
          have B1 := hN.out.2.trans (f1.belowF hN.out.2.size)
          clear hN f1
          go_wp2_with fail
          refine (did_no N1 0 0 0 true).mono ?_
          rintro e w2 ⟨rfl, f1⟩
          have N2 := N1.kept f1
          have B2 := B1.trans (f1.belowF B1.size)
          clear N1 B1 f1
          go_wp2_with fail
          refine (stands_no N2 0 0).mono ?_
          rintro e w3 ⟨rfl, f1⟩
          have N3 := N2.kept f1
          have B3 := B2.trans (f1.belowF B2.size)
          clear N2 B2 f1
          go_wp2_with fail
          refine (spots_no N3).mono ?_
          rintro e w4 ⟨rfl, rfl⟩
          go_wp2_with fail
          refine (tick_no N3).mono ?_
          rintro e w4 ⟨rfl, rfl⟩
          go_wp2_with fail
          go_roundw
          case rel => ((repeat apply Exists.intro); exact ⟨⟨_, k + 1, rfl, by go_num, by omega, Lib.hid ⟨.inr ⟨_, rfl, heap_new _ _⟩, B3.alloc B3.size _⟩⟩, rfl⟩)
          case measure => simp [intOf]; omega
        · obtain rfl : k = 2 := by omega
          go_wp2_with fail
          refine (works_any _).mono ?_
          rintro e w5 ⟨rfl, hB5⟩
          go_wp2
          go_ret
          exact ⟨rfl, hN.out.2.trans (hB5.mono hN.out.2.size)⟩
#print axioms known_any
end Go.Proofs.Ytckmjglomofooaa
