/-
  The fuse seat: the reference box: set: the walk.
-/
import Derived.Test.YtckmjglomofooaaGf
import Derived.Deep.DeepCutAuto
import Derived.Deep.CutBlock
import Derived.Laws.AppendOwnNone
namespace Go.Proofs.Ytckmjglomofooaa
open Go.RowKit

theorem Try.info77 : (Try.prog.info? 77).map (fun i => (i.zero, i.size, i.bytes)) = some (some (.agg #[.int .i64 0, .int .i64 0, .int .i64 0, .int .i64 0, .int .i64 0]), 5, 40) := by kernel_rfl

theorem Fr.cellq {w w' : World} {G : Nat → Prop} (h : Fr w w' G) {p : Addr} {u : Value} (hc : w.cell? p = some u) (hG : ¬ G p.block) : w'.cell? p = some u := by
  rw [World.cell?_of_block (h.block p.block (World.block_lt_of_cell? _ _ hc) hG)]
  exact hc

theorem before_is (d l d' l' : Int) (r : Bool) (hr : decide (bef d l d' l') = r) (w : World) :
    Calls Try.prog 40 #[.agg #[.int .i64 d, .int .i64 l], .agg #[.int .i64 d', .int .i64 l']] w fun e w' => e = .returned (.bool r) ∧ Fr w w' (fun _ => False) := by
  subst hr
  exact before_any d l d' l' w

theorem Below.fr {a b c : World} {n : Nat} (h : Below n a b) (hn : n ≤ a.heap.size) (f : Fr b.drew c (fun _ => False)) : Below n a c :=
  h.trans (((Fr.refl b (fun _ => False)).drew.trans f (fun _ _ h => h)).to_below (Nat.le_trans hn h.size) (fun _ _ h => h))

theorem row_fr {w w' : World} {base : Nat} {e : TypeId} {size : Nat} {v : Value} {n : Nat} {xs : List Value} (h : w.ownsRow base e size v n xs) (f : Fr w w' (fun _ => False)) : w'.ownsRow base e size v n xs := by
  refine ⟨h.1, ?_⟩
  rcases h.2 with h0 | ⟨g, cap, cur, rfl, h1, hg, h2⟩
  · exact .inl h0
  · exact .inr ⟨g, cap, cur, rfl, h1, (f.block g (lt_of_some hg) (fun h => h)).trans hg, h2⟩

theorem addr_off (b o j : Nat) : (⟨b, o, none⟩ : Addr).add j = ⟨b, o + j, none⟩ := by
  unfold Addr.add
  split
  · rename_i h; subst h; rfl
  · simp

theorem flatR_one : ∀ L : List Rfz, ∀ u ∈ flatR L, u.oneCell' = true
  | [], u, h => by simp [flatR] at h
  | x :: L, u, h => by
    simp only [flatR, List.mem_append] at h
    rcases h with h | h
    · simp [encR] at h
      rcases h with rfl | rfl | rfl | rfl | rfl <;> rfl
    · exact flatR_one L u h

theorem row_form {w : World} {base : Nat} {e : TypeId} {size : Nat} {v : Value} {n : Nat} {xs : List Value} (h : w.ownsRow base e size v n xs) : ∃ p m c, v = .slice p m c := by
  rcases h.2 with ⟨rfl, _⟩ | ⟨g, cap, cur, rfl, _⟩
  · exact ⟨_, _, _, rfl⟩
  · exact ⟨_, _, _, rfl⟩

theorem stS_F_ne {n : Int} (h : n ≠ 0) : stS n ≠ 0 ∨ (stS n = 0 ∧ stF n ≠ 0) := by
  unfold stS stF
  by_cases h4 : n % 4 = 0
  · rw [if_pos h4, if_pos h4]
    right
    exact ⟨rfl, by omega⟩
  · rw [if_neg h4]
    exact .inl h4

set_option maxRecDepth 100000 in
set_option maxHeartbeats 4000000 in
theorem rset_any {w : World} {m : Nat} {v : Value} {most rest now : Int} {L : List Rfz} (h : RBox w m v most rest now L) (hlen : L.length ≤ 100000) (x : Rfz) :
    Calls Try.prog 29 #[.pointer (some ⟨m, 0, none⟩), .agg #[.int .i64 x.d, .int .i64 x.l, .int .i64 (stS x.n), .int .i64 (stF x.n), .int .i64 (stU x.n)]] w fun e w' => e = .returned (.tuple #[]) ∧ ∃ v', RBox w' m v' most rest now (insR L x) ∧ Fr w w' (fun k => k = m) ∧ (∀ g, v'.ownBlock = some g → w.heap.size ≤ g) := by
  obtain ⟨i0, hi, hz0, hz1, hz2⟩ := info_parts Try.info77
  obtain ⟨p, cap, rfl, _, hrow⟩ := h.slice
  have hm := lt_of_some h.box
  have c0 : w.cell? ⟨m, 3, none⟩ = some (.slice p L.length cap) := by rw [cell_of_block h.box]; rfl
  have HB := Lib.hid h
  have HR := Lib.hid hrow
  have HI := Lib.hid hi
  have HZ0 := Lib.hid hz0
  have HZ1 := Lib.hid hz1
  have HZ2 := Lib.hid hz2
  have C0 := Lib.hid c0
  clear hrow hi hz0 hz1 hz2 h
  go_enter Try.func29, Try.ntmps29
  have b0 : (w.alloc (.cells #[.int .i64 x.d, .int .i64 x.l, .int .i64 (stS x.n), .int .i64 (stF x.n), .int .i64 (stU x.n)] 77)).cell? ⟨w.heap.size, 0, none⟩ = some (.int .i64 x.d) := by simp
  have b1 : (w.alloc (.cells #[.int .i64 x.d, .int .i64 x.l, .int .i64 (stS x.n), .int .i64 (stF x.n), .int .i64 (stU x.n)] 77)).cell? ⟨w.heap.size, 1, none⟩ = some (.int .i64 x.l) := by simp
  have b2 : (w.alloc (.cells #[.int .i64 x.d, .int .i64 x.l, .int .i64 (stS x.n), .int .i64 (stF x.n), .int .i64 (stU x.n)] 77)).cell? ⟨w.heap.size, 2, none⟩ = some (.int .i64 (stS x.n)) := by simp
  have b3 : (w.alloc (.cells #[.int .i64 x.d, .int .i64 x.l, .int .i64 (stS x.n), .int .i64 (stF x.n), .int .i64 (stU x.n)] 77)).cell? ⟨w.heap.size, 3, none⟩ = some (.int .i64 (stF x.n)) := by simp
  have b4 : (w.alloc (.cells #[.int .i64 x.d, .int .i64 x.l, .int .i64 (stS x.n), .int .i64 (stF x.n), .int .i64 (stU x.n)] 77)).cell? ⟨w.heap.size, 4, none⟩ = some (.int .i64 (stU x.n)) := by simp
  have hW : Below w.heap.size w (w.alloc (.cells #[.int .i64 x.d, .int .i64 x.l, .int .i64 (stS x.n), .int .i64 (stF x.n), .int .i64 (stU x.n)] 77)) := (Below.refl _ w).alloc (Nat.le_refl _) _
  have hsz : (w.alloc (.cells #[.int .i64 x.d, .int .i64 x.l, .int .i64 (stS x.n), .int .i64 (stF x.n), .int .i64 (stU x.n)] 77)).heap.size = w.heap.size + 1 := by simp
  go_upto_block 0 with fail
  generalize w.alloc (.cells #[.int .i64 x.d, .int .i64 x.l, .int .i64 (stS x.n), .int .i64 (stF x.n), .int .i64 (stU x.n)] 77) = W0 at *
  have BB := Lib.hid (And.intro b0 (And.intro b1 (And.intro b2 (And.intro b3 b4))))
  have HW := Lib.hid hW
  have HSZ := Lib.hid hsz
  clear b0 b1 b2 b3 b4 hW hsz c0
  -- what every world behind W0 reads
  have hC : ∀ wx, Below (w.heap.size + 1) W0 wx → wx.cell? ⟨m, 3, none⟩ = some (.slice p L.length cap) ∧ wx.cell? ⟨w.heap.size, 0, none⟩ = some (.int .i64 x.d) ∧ wx.cell? ⟨w.heap.size, 1, none⟩ = some (.int .i64 x.l) := fun wx hb => by
    obtain ⟨b0, b1, _⟩ := BB.out
    refine ⟨?_, ?_, ?_⟩
    · rw [hb.cell (by show m < _; omega), HW.out.cell hm]; exact C0.out
    · rw [hb.cell (by show w.heap.size < _; omega)]; exact b0
    · rw [hb.cell (by show w.heap.size < _; omega)]; exact b1
  have HC := Lib.hid hC
  clear hC
  go_cut [4, 5] (fun lv iv wx => ∃ k : Nat, iv = .int .i64 k ∧ k ≤ L.length ∧ Hid (∀ j y, j < k → L[j]? = some y → bef y.d y.l x.d x.l) ∧ Hid (∀ y, L[k]? = some y → ¬ bef y.d y.l x.d x.l) ∧ Hid (wx.ownsRow (w.heap.size + 1) 77 5 lv (L.take k).length (flatR (L.take k)) ∧ Below (w.heap.size + 1) W0 wx))
  case first =>
    go_wp2_with fail
    go_loopw [4, 5] (fun lv iv wx => ∃ k : Nat, iv = .int .i64 k ∧ k ≤ L.length ∧ Hid (∀ j y, j < k → L[j]? = some y → bef y.d y.l x.d x.l) ∧ Hid (wx.ownsRow (w.heap.size + 1) 77 5 lv (L.take k).length (flatR (L.take k)) ∧ Below (w.heap.size + 1) W0 wx)) (fun _ iv _ => L.length - (intOf iv).toNat)
    case atStart => exact ⟨0, rfl, Nat.zero_le _, Lib.hid (fun j y hj => by omega), Lib.hid ⟨World.ownsRow_nil _ _ _ _, Below.refl _ _⟩⟩
    case round =>
      obtain ⟨k, rfl, hk, hbef, hrel⟩ := hrel
      have hc := HC.out _ hrel.out.2
      obtain ⟨q0, q1, q2⟩ := hc
      by_cases hl : k < L.length
      · have hl2 : (k : Int) < (L.length : Int) := by omega
        obtain ⟨y, hy⟩ : ∃ y, L[k]? = some y := ⟨_, List.getElem?_eq_getElem hl⟩
        rcases HR.out with rfl | ⟨g, rfl, hgm, hg, hcells⟩
        · simp at hl
        have hcy : ∀ wx, Below (w.heap.size + 1) W0 wx → wx.cell? ⟨g, k * 5, none⟩ = some (.int .i64 y.d) ∧ wx.cell? ⟨g, k * 5 + 1, none⟩ = some (.int .i64 y.l) ∧ wx.cell? ⟨g, k * 5 + 2, none⟩ = some (.int .i64 (stS y.n)) ∧ wx.cell? ⟨g, k * 5 + 3, none⟩ = some (.int .i64 (stF y.n)) ∧ wx.cell? ⟨g, k * 5 + 4, none⟩ = some (.int .i64 (stU y.n)) := fun wx hb => by
          have e : ∀ j, wx.cell? ⟨g, j, none⟩ = w.cell? ⟨g, j, none⟩ := fun j => by rw [hb.cell (by show g < _; omega), HW.out.cell hg]
          refine ⟨?_, ?_, ?_, ?_, ?_⟩ <;> rw [e]
          · simpa using hcells k y hy 0 _ rfl
          · simpa using hcells k y hy 1 _ rfl
          · simpa using hcells k y hy 2 _ rfl
          · simpa using hcells k y hy 3 _ rfl
          · simpa using hcells k y hy 4 _ rfl
        have HCY := Lib.hid hcy
        have HY := Lib.hid hy
        clear hcells hcy hy
        obtain ⟨y0, y1, y2, y3, y4⟩ := HCY.out _ hrel.out.2
        have hcs : ∀ wx, Below (w.heap.size + 1) W0 wx → wx.cell? ⟨m, 3, none⟩ = some (.slice (some ⟨g, 0, none⟩) L.length cap) ∧ wx.cell? ⟨g, k * 5, none⟩ = some (.int .i64 y.d) ∧ wx.cell? ⟨g, k * 5 + 1, none⟩ = some (.int .i64 y.l) ∧ wx.cell? ⟨w.heap.size, 0, none⟩ = some (.int .i64 x.d) ∧ wx.cell? ⟨w.heap.size, 1, none⟩ = some (.int .i64 x.l) := fun wx hb => by
          obtain ⟨a0, a1, a2⟩ := HC.out _ hb
          obtain ⟨a3, a4, _⟩ := HCY.out _ hb
          exact ⟨a0, a3, a4, a1, a2⟩
        have HCS := Lib.hid hcs
        clear hcs y2 y3 y4
        by_cases hb : bef y.d y.l x.d x.l
        · have HBT := Lib.hid (decide_eq_true hb)
          go_wp2_with fail
          go_region_held3 (fun wx => wx.cell? ⟨m, 3, none⟩ = some (.slice (some ⟨g, 0, none⟩) L.length cap) ∧ wx.cell? ⟨g, k * 5, none⟩ = some (.int .i64 y.d) ∧ wx.cell? ⟨g, k * 5 + 1, none⟩ = some (.int .i64 y.l) ∧ wx.cell? ⟨w.heap.size, 0, none⟩ = some (.int .i64 x.d) ∧ wx.cell? ⟨w.heap.size, 1, none⟩ = some (.int .i64 x.l)) (first | go_keep | exact HCS.out _ B1)
            (first
            | (go_at_call 40
               refine (before_is _ _ _ _ true HBT.out _).mono ?_
               rintro e w1 ⟨rfl, f1⟩
               have B1 := Below.fr hrel.out.2 (by rw [HSZ.out]; exact Nat.le_refl _) f1))
          clear q0 q1 q2 y0 y1
          obtain ⟨q0, q1, q2⟩ := HC.out _ B1
          obtain ⟨y0, y1, y2, y3, y4⟩ := HCY.out _ B1
          have k2 := row_fr hrel.out.1 ((Fr.refl wr (fun _ => False)).drew.trans f1 (fun _ _ h => h))
          have htk : (L.take k).length = k := by simp; omega
          rw [htk] at k2
          clear hrel q0 q1 q2 f1
          go_wp2_with (at_builtin; refine wpList_append_own _ rfl _ _ 35 rfl (w.heap.size + 1) 77 i0 (.agg #[.int .i64 0, .int .i64 0, .int .i64 0, .int .i64 0, .int .i64 0]) 5 40 Try.underlying35 HI.out HZ0.out HZ1.out HZ2.out rfl (by decide) _ _ _ rfl (k2.alloc _) ⟨w1.heap.size, 0, none⟩ 1 1 [.int .i64 y.d, .int .i64 y.l, .int .i64 (stS y.n), .int .i64 (stF y.n), .int .i64 (stU y.n)] rfl rfl ?c1 ?c2 ?c3 ?c4 ?c5 ?_)
          case c1 =>
            intro j u hj
            rw [addr_add, cell_of_block (heap_new w1 (.cells #[.int .i64 y.d, .int .i64 y.l, .int .i64 (stS y.n), .int .i64 (stF y.n), .int .i64 (stU y.n)] 77)), ← hj]
            simp
          case c2 => intro u hu; simp at hu; rcases hu with rfl | rfl | rfl | rfl | rfl <;> rfl
          case c3 => unfold maxLen; omega
          case c4 => omega
          case c5 => have := B1.size; have := HSZ.out; simp; omega
          intro v' w2 hown' hgrow hnil
          have m2 : Below (w.heap.size + 1) W0 w2 := (B1.alloc (by have := B1.size; have := HSZ.out; omega) _).grown hgrow (by have := B1.size; have := HSZ.out; simp; omega) (fun k hk => (k2.lt k hk).1)
          have M2 := Lib.hid m2
          have HO2 := Lib.hid hown'
          clear m2 hown' hgrow hnil
          go_wp2
          go_roundw
          case rel =>
            refine ⟨k + 1, by go_num, by omega, Lib.hid (fun j z hj hz => ?_), Lib.hid ⟨?_, M2.out⟩⟩
            · by_cases hjk : j = k
              · subst hjk
                rw [HY.out] at hz
                cases hz
                exact hb
              · exact hbef.out j z (by omega) hz
            · have e1 : L.take (k + 1) = L.take k ++ [y] := by rw [List.take_add_one, HY.out]; rfl
              rw [e1, flatR_append, List.length_append, htk]
              exact HO2.out
          case measure => simp [intOf]; omega
        · have HBT := Lib.hid (decide_eq_false hb)
          go_wp2_with fail
          go_region_held3 (fun wx => wx.cell? ⟨m, 3, none⟩ = some (.slice (some ⟨g, 0, none⟩) L.length cap) ∧ wx.cell? ⟨g, k * 5, none⟩ = some (.int .i64 y.d) ∧ wx.cell? ⟨g, k * 5 + 1, none⟩ = some (.int .i64 y.l) ∧ wx.cell? ⟨w.heap.size, 0, none⟩ = some (.int .i64 x.d) ∧ wx.cell? ⟨w.heap.size, 1, none⟩ = some (.int .i64 x.l)) (first | go_keep | exact HCS.out _ B1)
            (first
            | (go_at_call 40
               refine (before_is _ _ _ _ false HBT.out _).mono ?_
               rintro e w1 ⟨rfl, f1⟩
               have B1 := Below.fr hrel.out.2 (by rw [HSZ.out]; exact Nat.le_refl _) f1))
          clear q0 q1 q2 y0 y1
          go_wp2_with fail
          go_meet
          case rel => exact ⟨k, rfl, hk, hbef, Lib.hid (fun z hz => by rw [HY.out] at hz; cases hz; exact hb), Lib.hid ⟨row_fr hrel.out.1 ((Fr.refl wr (fun _ => False)).drew.trans f1 (fun _ _ h => h)), B1⟩⟩
      · have hke : k = L.length := by omega
        have hnl : Hid (∀ y, L[k]? = some y → ¬ bef y.d y.l x.d x.l) := Lib.hid (fun y hy => by rw [List.getElem?_eq_none (by omega)] at hy; cases hy)
        subst hke
        go_wp2_with fail
        go_quiet (fail)
        go_wp2_with fail
        go_meet
        case rel => exact ⟨_, rfl, Nat.le_refl _, hbef, hnl, Lib.hid ⟨row_fr hrel.out.1 ((Fr.refl wr (fun _ => False)).drewN _), (hrel.out.2).trans (((Fr.refl wr (fun _ => False)).drewN _).to_below (by have := hrel.out.2.size; have := HSZ.out; omega) (fun _ _ h => h))⟩⟩
  case rest =>
    obtain ⟨k, rfl, hk, hbef, hno, hrel⟩ := hcut
    have hins := insR_split x L k hk hbef.out hno.out
    have HINS := Lib.hid hins
    clear hins
    have t2 : wc.cell? ⟨w.heap.size, 2, none⟩ = some (.int .i64 (stS x.n)) := by rw [hrel.out.2.cell (by show w.heap.size < _; omega)]; exact BB.out.2.2.1
    have t3 : wc.cell? ⟨w.heap.size, 3, none⟩ = some (.int .i64 (stF x.n)) := by rw [hrel.out.2.cell (by show w.heap.size < _; omega)]; exact BB.out.2.2.2.1
    go_upto_region 6 with fail
    go_cut [45] (fun t wx => t = .bool (decide (x.n ≠ 0)) ∧ wc = wx)
    case first =>
      by_cases hn : x.n = 0
      · have e2 : stS x.n = 0 := by rw [hn]; rfl
        have e3 : stF x.n = 0 := by rw [hn]; rfl
        rw [e2] at t2
        rw [e3] at t3
        clear e2 e3
        go_wp2_with fail
        go_meet
        case rel => exact ⟨by simp [hn], rfl⟩
      · have hnd : decide (x.n ≠ 0) = true := decide_eq_true hn
        have HND := Lib.hid hnd
        clear hnd
        rcases stS_F_ne hn with hs | ⟨hs, hf⟩
        · have hs1 : (stS x.n == 0) = false := by simpa using hs
          go_wp2_with fail
          go_meet
          case rel => exact ⟨by rw [HND.out], rfl⟩
        · have hf1 : (stF x.n == 0) = false := by simpa using hf
          rw [hs] at t2
          clear hs
          go_wp2_with fail
          go_meet
          case rel => exact ⟨by rw [HND.out]; simp [hf], rfl⟩
    case rest =>
      obtain ⟨rfl, rfl⟩ := hcut
      clear t2 t3
      go_upto_if 45 with fail
      go_cut [4] (fun lv wx => Hid (wx.ownsRow (w.heap.size + 1) 77 5 lv (L.take k ++ (if x.n ≠ 0 then [x] else [])).length (flatR (L.take k ++ (if x.n ≠ 0 then [x] else []))) ∧ Below (w.heap.size + 1) W0 wx))
      case first =>
        by_cases hn : x.n = 0
        · have hd : decide (x.n ≠ 0) = false := by simp [hn]
          rw [hd]
          clear hd
          go_wp2_with fail
          go_meet
          case rel => exact Lib.hid (by rw [if_neg (by simp [hn]), List.append_nil]; exact hrel.out)
        · have hd : decide (x.n ≠ 0) = true := by simp [hn]
          rw [hd]
          clear hd
          have k2 := hrel.out.1
          have B1 := Lib.hid hrel.out.2
          have htk : (L.take k).length = k := by simp; omega
          rw [htk] at k2
          have t0 : wc.cell? ⟨w.heap.size, 0, none⟩ = some (.int .i64 x.d) := by rw [B1.out.cell (by show w.heap.size < _; omega)]; exact BB.out.1
          have t1 : wc.cell? ⟨w.heap.size, 1, none⟩ = some (.int .i64 x.l) := by rw [B1.out.cell (by show w.heap.size < _; omega)]; exact BB.out.2.1
          have t2 : wc.cell? ⟨w.heap.size, 2, none⟩ = some (.int .i64 (stS x.n)) := by rw [B1.out.cell (by show w.heap.size < _; omega)]; exact BB.out.2.2.1
          have t3 : wc.cell? ⟨w.heap.size, 3, none⟩ = some (.int .i64 (stF x.n)) := by rw [B1.out.cell (by show w.heap.size < _; omega)]; exact BB.out.2.2.2.1
          have t4 : wc.cell? ⟨w.heap.size, 4, none⟩ = some (.int .i64 (stU x.n)) := by rw [B1.out.cell (by show w.heap.size < _; omega)]; exact BB.out.2.2.2.2
          have HTK := Lib.hid htk
          clear hrel htk
          go_wp2_with (at_builtin; refine wpList_append_own _ rfl _ _ 35 rfl (w.heap.size + 1) 77 i0 (.agg #[.int .i64 0, .int .i64 0, .int .i64 0, .int .i64 0, .int .i64 0]) 5 40 Try.underlying35 HI.out HZ0.out HZ1.out HZ2.out rfl (by decide) _ _ _ rfl (k2.alloc _) ⟨wc.heap.size, 0, none⟩ 1 1 [.int .i64 x.d, .int .i64 x.l, .int .i64 (stS x.n), .int .i64 (stF x.n), .int .i64 (stU x.n)] rfl rfl ?c1 ?c2 ?c3 ?c4 ?c5 ?_)
          case c1 =>
            intro j u hj
            rw [addr_add, cell_of_block (heap_new wc (.cells #[.int .i64 x.d, .int .i64 x.l, .int .i64 (stS x.n), .int .i64 (stF x.n), .int .i64 (stU x.n)] 77)), ← hj]
            simp
          case c2 => intro u hu; simp at hu; rcases hu with rfl | rfl | rfl | rfl | rfl <;> rfl
          case c3 => unfold maxLen; omega
          case c4 => omega
          case c5 => have := B1.out.size; have := HSZ.out; simp; omega
          intro v' w2 hown' hgrow hnil
          have m2 : Below (w.heap.size + 1) W0 w2 := (B1.out.alloc (by have := B1.out.size; have := HSZ.out; omega) _).grown hgrow (by have := B1.out.size; have := HSZ.out; simp; omega) (fun k hk => (k2.lt k hk).1)
          have M2 := Lib.hid m2
          have HO2 := Lib.hid hown'
          clear m2 hown' hgrow hnil t0 t1 t2 t3 t4
          go_wp2
          go_meet
          case rel => exact Lib.hid ⟨by rw [if_pos hn, List.length_append, flatR_append, HTK.out]; exact HO2.out, M2.out⟩
      case rest =>
        have hrel2 := hcut
        clear hcut hrel
        obtain ⟨q, hq⟩ : ∃ q, L.take k ++ (if x.n ≠ 0 then [x] else []) = q := ⟨_, rfl⟩
        rw [hq] at hrel2
        have hqlen : q.length ≤ k + 1 := by
          rw [← hq, List.length_append]
          have := List.length_take_le k L
          split <;> simp <;> omega
        have HQ := Lib.hid hq
        clear hq
        go_upto_region 8 with fail
        go_cut [69] (fun t wx => t = .bool (decide (∃ y, L[k]? = some y ∧ y.d = x.d ∧ y.l = x.l)) ∧ Hid (wx.ownsRow (w.heap.size + 1) 77 5 u4 q.length (flatR q) ∧ Below (w.heap.size + 1) W0 wx))
        case first =>
          have hstay : ∀ wx, Fr wc wx (fun _ => False) → Hid (wx.ownsRow (w.heap.size + 1) 77 5 u4 q.length (flatR q) ∧ Below (w.heap.size + 1) W0 wx) := fun wx f => Lib.hid ⟨row_fr hrel2.out.1 f, hrel2.out.2.trans (f.to_below (by have := hrel2.out.2.size; have := HSZ.out; omega) (fun _ _ h => h))⟩
          have HST := Lib.hid hstay
          clear hstay
          obtain ⟨q0, q1, q2⟩ := HC.out _ hrel2.out.2
          by_cases hl : k < L.length
          · have hl2 : (k : Int) < (L.length : Int) := by omega
            obtain ⟨y, hy⟩ : ∃ y, L[k]? = some y := ⟨_, List.getElem?_eq_getElem hl⟩
            rcases HR.out with rfl | ⟨g, rfl, hgm, hg, hcells⟩
            · simp at hl
            have y0 : wc.cell? ⟨g, k * 5, none⟩ = some (.int .i64 y.d) := by
              rw [hrel2.out.2.cell (by show g < _; omega), HW.out.cell hg]
              simpa using hcells k y hy 0 _ rfl
            have y1 : wc.cell? ⟨g, k * 5 + 1, none⟩ = some (.int .i64 y.l) := by
              rw [hrel2.out.2.cell (by show g < _; omega), HW.out.cell hg]
              simpa using hcells k y hy 1 _ rfl
            have hex : (∃ z, L[k]? = some z ∧ z.d = x.d ∧ z.l = x.l) ↔ (y.d = x.d ∧ y.l = x.l) := by
              constructor
              · rintro ⟨z, hz, h⟩
                rw [hy] at hz
                cases hz
                exact h
              · exact fun h => ⟨y, hy, h⟩
            have HEX := Lib.hid hex
            clear hcells hy hex
            by_cases e1 : y.d = x.d
            · by_cases e2 : y.l = x.l
              · have HR1 : Hid (decide (∃ z, L[k]? = some z ∧ z.d = x.d ∧ z.l = x.l) = true) := Lib.hid (decide_eq_true (HEX.out.2 ⟨e1, e2⟩))
                rw [e1] at y0
                rw [e2] at y1
                go_region_held3 (fun wx => wx.cell? ⟨m, 3, none⟩ = some (.slice (some ⟨g, 0, none⟩) L.length cap) ∧ wx.cell? ⟨g, k * 5, none⟩ = some (.int .i64 x.d) ∧ wx.cell? ⟨g, k * 5 + 1, none⟩ = some (.int .i64 x.l) ∧ wx.cell? ⟨w.heap.size, 0, none⟩ = some (.int .i64 x.d) ∧ wx.cell? ⟨w.heap.size, 1, none⟩ = some (.int .i64 x.l)) (go_keep) (fail)
                go_wp2_with fail
                go_meet
                case rel => exact ⟨by rw [HR1.out], HST.out _ ((Fr.refl wc (fun _ => False)).drew)⟩
              · have HR1 : Hid (decide (∃ z, L[k]? = some z ∧ z.d = x.d ∧ z.l = x.l) = false) := Lib.hid (decide_eq_false (fun h => e2 (HEX.out.1 h).2))
                have e3 : (y.l == x.l) = false := by simpa using e2
                rw [e1] at y0
                go_region_held3 (fun wx => wx.cell? ⟨m, 3, none⟩ = some (.slice (some ⟨g, 0, none⟩) L.length cap) ∧ wx.cell? ⟨g, k * 5, none⟩ = some (.int .i64 x.d) ∧ wx.cell? ⟨g, k * 5 + 1, none⟩ = some (.int .i64 y.l) ∧ wx.cell? ⟨w.heap.size, 0, none⟩ = some (.int .i64 x.d) ∧ wx.cell? ⟨w.heap.size, 1, none⟩ = some (.int .i64 x.l)) (go_keep) (fail)
                go_wp2_with fail
                go_meet
                case rel => exact ⟨by rw [HR1.out], HST.out _ ((Fr.refl wc (fun _ => False)).drew)⟩
            · have HR1 : Hid (decide (∃ z, L[k]? = some z ∧ z.d = x.d ∧ z.l = x.l) = false) := Lib.hid (decide_eq_false (fun h => e1 (HEX.out.1 h).1))
              have e3 : (y.d == x.d) = false := by simpa using e1
              go_region_held3 (fun wx => wx.cell? ⟨m, 3, none⟩ = some (.slice (some ⟨g, 0, none⟩) L.length cap) ∧ wx.cell? ⟨g, k * 5, none⟩ = some (.int .i64 y.d) ∧ wx.cell? ⟨g, k * 5 + 1, none⟩ = some (.int .i64 y.l) ∧ wx.cell? ⟨w.heap.size, 0, none⟩ = some (.int .i64 x.d) ∧ wx.cell? ⟨w.heap.size, 1, none⟩ = some (.int .i64 x.l)) (go_keep) (fail)
              go_wp2_with fail
              go_meet
              case rel => exact ⟨by rw [HR1.out], HST.out _ ((Fr.refl wc (fun _ => False)).drew)⟩
          · have HR1 : Hid (decide (∃ z, L[k]? = some z ∧ z.d = x.d ∧ z.l = x.l) = false) := Lib.hid (decide_eq_false (fun ⟨z, hz, _⟩ => by rw [List.getElem?_eq_none (by omega)] at hz; cases hz))
            obtain rfl : k = L.length := by omega
            go_quiet (fail)
            go_wp2_with fail
            go_meet
            case rel => exact ⟨by rw [HR1.out], HST.out _ ((Fr.refl wc (fun _ => False)).drewN _)⟩
        case rest =>
          obtain ⟨rfl, hrel3⟩ := hcut
          clear hrel2
          have fin : ∀ (k' : Nat) (v' : Value) (w2 : World), insR L x = q ++ L.drop k' → w2.ownsRow (w.heap.size + 1) 77 5 v' (q ++ L.drop k').length (flatR (q ++ L.drop k')) → Below (w.heap.size + 1) W0 w2 →
              (∃ v'', RBox (w2.setCell ⟨m, 3, none⟩ v') m v'' most rest now (insR L x) ∧ Fr w (w2.setCell ⟨m, 3, none⟩ v') (fun k => k = m) ∧ ∀ g, v''.ownBlock = some g → w.heap.size ≤ g) := by
            intro k' v' w2 hi' hr hb
            have hbm : w2.heap[m]? = some (.cells #[.int .i64 most, .int .i64 rest, .int .i64 now, .slice p L.length cap] 37 (0, 0)) := by
              rw [hb.block m (by omega), HW.out.block m hm]
              exact HB.out.box
            have hvb : ∀ g, v'.ownBlock = some g → w.heap.size + 1 ≤ g := fun g hg => (hr.lt g hg).1
            refine ⟨v', ⟨?_, ?_, fun e => by have := hvb m e; omega⟩, ?_, fun g hg => by have := hvb g hg; omega⟩
            · simp [World.setCell, Array.getElem?_modify, hbm]
            · rw [hi']
              refine ⟨hr.1, ?_⟩
              rcases hr.2 with h0 | ⟨g, cap', cur, rfl, h1, hg, h2⟩
              · exact .inl h0
              · refine .inr ⟨g, cap', cur, rfl, Nat.zero_le _, ?_, h2⟩
                rw [Below.heap_setCell _ _ _ _ (fun e => by have := hvb g rfl; simp at e; omega)]
                exact hg
            · refine Fr.setCell ?_ _ _ (fun _ => rfl)
              exact (Fr.below HW.out (Nat.le_refl _) _).trans (Fr.below hb (by rw [HSZ.out]; exact Nat.le_refl _) (fun k => k = m)) (fun _ _ h => h)
          have FIN := Lib.hid fin
          clear fin
          go_upto_if 69 with fail
          go_cut [5] (fun iv wx => ∃ k' : Nat, iv = .int .i64 k' ∧ k' ≤ L.length ∧ Hid (insR L x = q ++ L.drop k') ∧ wc = wx)
          case first =>
            by_cases he : ∃ z, L[k]? = some z ∧ z.d = x.d ∧ z.l = x.l
            · have hd : decide (∃ z, L[k]? = some z ∧ z.d = x.d ∧ z.l = x.l) = true := decide_eq_true he
              have hkl : k < L.length := by
                obtain ⟨z, hz, _⟩ := he
                exact (List.getElem?_eq_some_iff.1 hz).1
              have hi2 : Hid (insR L x = q ++ L.drop (k + 1)) := Lib.hid (by rw [HINS.out, if_pos he, ← List.append_assoc, HQ.out])
              rw [hd]
              clear hd he
              go_wp2_with fail
              go_meet
              case rel => exact ⟨k + 1, by go_num, by omega, hi2, rfl⟩
            · have hd : decide (∃ z, L[k]? = some z ∧ z.d = x.d ∧ z.l = x.l) = false := decide_eq_false he
              have hi2 : Hid (insR L x = q ++ L.drop k) := Lib.hid (by rw [HINS.out, if_neg he, ← List.append_assoc, HQ.out])
              rw [hd]
              clear hd he
              go_wp2_with fail
              go_meet
              case rel => exact ⟨k, rfl, hk, hi2, rfl⟩
          case rest =>
            obtain ⟨k', rfl, hk', hi2, rfl⟩ := hcut
            obtain ⟨q0, _, _⟩ := HC.out _ hrel3.out.2
            have k2 := hrel3.out.1
            have B1 := Lib.hid hrel3.out.2
            have hrb := HB.out.row
            have HRB := Lib.hid hrb
            have hst : ∀ w2, Below (w.heap.size + 1) W0 w2 → w2.cell? ⟨m, 3, none⟩ = some (.slice p L.length cap) ∧ w2.frozen? ⟨m, 3, none⟩ = false := by
              intro w2 hb
              have hbm : w2.heap[m]? = some (.cells #[.int .i64 most, .int .i64 rest, .int .i64 now, .slice p L.length cap] 37 (0, 0)) := by
                rw [hb.block m (by omega), HW.out.block m hm]
                exact HB.out.box
              exact ⟨by rw [cell_of_block hbm]; rfl, by simp [World.frozen?, hbm]⟩
            have HST := Lib.hid hst
            clear hrel3 hrb hst
            rcases HRB.out.2 with ⟨hv, h0⟩ | ⟨g, cap', cur, hv, _, hg, hn, hmx, hs, ht⟩
            · injection hv with e1 e2 e3
              subst e1
              subst e3
              obtain rfl : L = [] := List.length_eq_zero_iff.1 h0
              obtain rfl : k' = 0 := by simpa using hk'
              obtain ⟨q0, fz⟩ := HST.out _ B1.out
              obtain ⟨pu, mu, cu, rfl⟩ := row_form k2
              have q0 : wc.cell? ⟨m, 3, none⟩ = some (.slice none 0 0) := q0
              clear hk'
              go_wp2_with (at_builtin; refine wpList_append_own_none rfl _ _ 35 rfl (w.heap.size + 1) 77 i0 5 Try.underlying35 HI.out _ _ _ rfl k2 rfl ?_)
              go_end0
              exact ⟨rfl, FIN.out 0 _ _ hi2.out (by simpa using k2) B1.out⟩
            · injection hv with e1 e2 e3
              subst e1
              subst e3
              have hcl : ∀ w2, Below (w.heap.size + 1) W0 w2 → ∀ j u, (flatR (L.drop k'))[j]? = some u → w2.cell? ⟨g, k' * 5 + j, none⟩ = some u := by
                intro w2 hb j u hu
                rw [← flatR_drop, List.getElem?_drop, ← ht, List.getElem?_take] at hu
                split at hu
                · rw [hb.cell (by show g < _; have := lt_of_some hg; omega), HW.out.cell (lt_of_some hg), cell_of_block hg]
                  simpa using hu
                · cases hu
              have HCL := Lib.hid hcl
              have hcapk : k' < L.length → ¬ cap = k' := by omega
              clear hcl ht hs hmx
              by_cases hkl : k' < L.length
              · have hck : ¬ cap = k' := by omega
                go_wp2_with (at_builtin; refine wpList_append_own _ rfl _ _ 35 rfl (w.heap.size + 1) 77 i0 (.agg #[.int .i64 0, .int .i64 0, .int .i64 0, .int .i64 0, .int .i64 0]) 5 40 Try.underlying35 HI.out HZ0.out HZ1.out HZ2.out rfl (by decide) _ _ _ rfl k2 ⟨g, k' * 5, none⟩ (L.length - k') _ (flatR (L.drop k')) rfl ?c0 ?c1 (flatR_one _) ?c3 ?c4 ?c5 ?_)
                case c0 => rw [flatR_length, List.length_drop]
                case c1 => intro j u hu; exact HCL.out _ B1.out j u hu
                case c3 => unfold maxLen; omega
                case c4 => omega
                case c5 => have := B1.out.size; have := HSZ.out; omega
                intro v' w2 hown' hgrow hnil
                have hB2 : Below (w.heap.size + 1) W0 w2 := B1.out.grown hgrow (by have := B1.out.size; have := HSZ.out; omega) (fun k hk => (k2.lt k hk).1)
                have ho2 : w2.ownsRow (w.heap.size + 1) 77 5 v' (q ++ L.drop k').length (flatR (q ++ L.drop k')) := by rw [List.length_append, List.length_drop, flatR_append]; exact hown'
                have HO2 := Lib.hid ho2
                obtain ⟨q3, fz⟩ := HST.out _ hB2
                obtain ⟨pu, mu, cu, rfl⟩ := row_form hown'
                have HB2 := Lib.hid hB2
                clear hown' hgrow hnil hB2 ho2 q0
                go_wp2
                go_end0
                exact ⟨rfl, FIN.out k' _ _ hi2.out HO2.out HB2.out⟩
              · obtain rfl : k' = L.length := by omega
                have hd : L.drop L.length = [] := by simp
                have HD := Lib.hid hd
                have fin2 : ∀ (v' : Value) (w2 : World), w2.ownsRow (w.heap.size + 1) 77 5 v' q.length (flatR q) → wc.grownBy w2 u4.ownBlock → Hid (w2.ownsRow (w.heap.size + 1) 77 5 v' (q ++ L.drop L.length).length (flatR (q ++ L.drop L.length))) ∧ Below (w.heap.size + 1) W0 w2 := by
                  intro v' w2 hown' hgrow
                  refine ⟨Lib.hid (by rw [hd, List.append_nil]; exact hown'), B1.out.grown hgrow (by have := B1.out.size; have := HSZ.out; omega) (fun k hk => (k2.lt k hk).1)⟩
                have FIN2 := Lib.hid fin2
                clear hd fin2 e2 hk' hkl hcapk
                by_cases hck : cap = L.length
                · subst hck
                  go_wp2_with (at_builtin; refine wpList_append_own _ rfl _ _ 35 rfl (w.heap.size + 1) 77 i0 (.agg #[.int .i64 0, .int .i64 0, .int .i64 0, .int .i64 0, .int .i64 0]) 5 40 Try.underlying35 HI.out HZ0.out HZ1.out HZ2.out rfl (by decide) _ _ _ rfl k2 ⟨g, 0, none⟩ 0 0 [] rfl ?c0 ?c1 ?c2 ?c3 ?c4 ?c5 ?_)
                  case c0 => rfl
                  case c1 => intro j u hu; simp at hu
                  case c2 => intro u hu; simp at hu
                  case c3 => unfold maxLen; omega
                  case c4 => omega
                  case c5 => have := B1.out.size; have := HSZ.out; omega
                  intro v' w2 hown' hgrow hnil
                  obtain ⟨HO2, hB2⟩ := FIN2.out v' w2 hown' hgrow
                  obtain ⟨q3, fz⟩ := HST.out _ hB2
                  obtain ⟨pu, mu, cu, rfl⟩ := row_form hown'
                  have HB2 := Lib.hid hB2
                  clear hown' hgrow hnil hB2 q0
                  go_wp2
                  go_end0
                  exact ⟨rfl, FIN.out _ _ _ hi2.out HO2.out HB2.out⟩
                · go_wp2_with (at_builtin; refine wpList_append_own _ rfl _ _ 35 rfl (w.heap.size + 1) 77 i0 (.agg #[.int .i64 0, .int .i64 0, .int .i64 0, .int .i64 0, .int .i64 0]) 5 40 Try.underlying35 HI.out HZ0.out HZ1.out HZ2.out rfl (by decide) _ _ _ rfl k2 ⟨g, L.length * 5, none⟩ 0 _ [] rfl ?c0 ?c1 ?c2 ?c3 ?c4 ?c5 ?_)
                  case c0 => rfl
                  case c1 => intro j u hu; simp at hu
                  case c2 => intro u hu; simp at hu
                  case c3 => unfold maxLen; omega
                  case c4 => omega
                  case c5 => have := B1.out.size; have := HSZ.out; omega
                  intro v' w2 hown' hgrow hnil
                  obtain ⟨HO2, hB2⟩ := FIN2.out v' w2 hown' hgrow
                  obtain ⟨q3, fz⟩ := HST.out _ hB2
                  obtain ⟨pu, mu, cu, rfl⟩ := row_form hown'
                  have HB2 := Lib.hid hB2
                  clear hown' hgrow hnil hB2 q0
                  go_wp2
                  go_end0
                  exact ⟨rfl, FIN.out _ _ _ hi2.out HO2.out HB2.out⟩
#print axioms rset_any
end Go.Proofs.Ytckmjglomofooaa
