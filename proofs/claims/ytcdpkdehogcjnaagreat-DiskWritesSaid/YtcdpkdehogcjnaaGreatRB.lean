/- What reading a head, opening a disk, its records and its free blocks come to: contracts of these functions, whatever the input. -/
import Derived.Test.YtcdpkdehogcjnaaGreatRA
import Derived.Laws.CopyOwn
import Derived.Deep.DeepCutAuto
import Derived.Deep.CutBlock
import Derived.RegionDies
import Derived.Deep.RegionLaw
import Derived.Defers
import Derived.Recover
import Derived.Laws.Pointers
import Derived.BigQuiet
import Derived.Deep.QuietTactic
set_option linter.unusedVariables false
set_option linter.unusedSimpArgs false
namespace Go.Proofs.YtcdpkdehogcjnaaGreat.Print
open Go.RowKit Go.Proofs.YtcdpkdehogcjnaaGreatW.PrintWords Go.Proofs.YtcdpkdehogcjnaaGreatW.PrintLast Go.Proofs.YtcdpkdehogcjnaaGreatW.PrintMore
attribute [local go_sem ↓] loadHalf
attribute [local go_sem] run_storeRow rowLen_alloc rowLen_drew rowLen_setRow rowAt_alloc rowAt_drew rowAt_setRow
set_option maxHeartbeats 2000000 in
set_option maxRecDepth 100000 in
theorem read1_any (W0 : World) (qb qh qs : Nat) (ad : Addr) (n c i : Nat) (xs : List Int) (w : World) (E : RdEnv W0 w qb qh qs ad n c i xs)
  (hs : w.heap[qs]? = some (.cells #[.int .i64 0, .int .i64 0, .map none, .slice none 0 0] 79 (0, 0))) (hi : (i + 1) * 64 ≤ n) (nb : Nat) (hnb : n = nb * 64) (h8 : 8 ≤ nb) (h256 : nb ≤ 256) :
  Calls Tryz.prog 87 #[.pointer (some ⟨qb, 0, none⟩), .pointer (some ⟨qh, 0, none⟩), .pointer (some ⟨qs, 0, none⟩)] w fun e w' => R1Post W0 qs i xs nb w e w' := by
 subst hnb
 obtain ⟨cb, ch⟩ := E.cells
 have HS := Aside0.mk hs
 clear hs
 have hn := E.hn
 have hc := E.hc
 have harr : ∀ (a : Option Addr) (c : Nat) (w : World), (Instr.arrayAt 126 (.slice a 32 c)).run Tryz.prog w = .ok (.pointer a) w := fun a c w => by simp [Instr.arrayAt, run_underlying Tryz.underlying126]
 obtain ⟨a0, ha0⟩ : ∃ a0, a0 = ad.add (i * 64) := ⟨_, rfl⟩
 obtain ⟨hl, hhl⟩ : ∃ hl, hl = blkL xs i := ⟨_, rfl⟩
 have hblk := E.blk i hi
 rw [← ha0, ← hhl] at hblk
 have hbw := Kd.C_below hblk E.hB
 have H64 := C_len hblk
 have r0 := rowAt_C hbw 32 (by omega)
 have r1 : rowAt w (a0.add 32) 32 = some (nums .u8 (hl.drop 32)) := by
  have h1 := rowAt_C (C_dropN (c := 65) hbw 32 (by omega) (by omega)) 32 (by omega)
  rw [List.take_of_length_le (by simp; omega)] at h1
  exact h1
 have e32 : a0.add 32 = ⟨a0.block, a0.off + 32, none⟩ := by simp [Addr.add]
 rw [e32] at r1
 have HBL := Aside0.mk hblk
 have HL := Aside0.mk hhl
 clear hblk hhl hbw e32
 obtain ⟨cs1, hc1⟩ : ∃ cs1, cs1 = nums .u8 (hl.take 32) := ⟨_, rfl⟩
 obtain ⟨cs2, hc2⟩ : ∃ cs2, cs2 = nums .u8 (hl.drop 32) := ⟨_, rfl⟩
 have l1 : cs1.length = 32 := by simp [hc1, nums]; omega
 have l2 : cs2.length = 32 := by simp [hc2, nums]; omega
 have q1 : oneCells cs1 = true := by rw [hc1]; simpa [oneCells] using nums_one _ _
 have q2 : oneCells cs2 = true := by rw [hc2]; simpa [oneCells] using nums_one _ _
 rw [← hc1] at r0
 rw [← hc2] at r1
 have HC1 := Aside0.mk hc1
 have HC2 := Aside0.mk hc2
 have a1 : a0.block < w.heap.size := block_lt_of_cell (show w.cell? (a0.add 0) = some _ from (rowAt_some.1 r0).2 0 _ (List.getElem?_eq_getElem (by omega)))
 have a2 : a0.block < w.heap.size + 1 := by omega
 have a3 : a0.block ≠ w.heap.size := by omega
 have a4 : a0.block ≠ w.heap.size + 1 := by omega
 clear hc1 hc2
 go_enter Tryz.func87, Tryz.ntmps87
 go_step3
 go_upto_region 1 with (go_at_call 62; refine (block_any _ _ _ _ _ hn hc hi).mono ?_; rintro e w1 ⟨rfl, rfl⟩; simp only [Option.map_some, ← ha0])
 clear ha0
 go_cut [4, 5] (fun p q wx => ∃ g1 g2 : Nat, p = .pointer (some ⟨g1, 0, none⟩) ∧ q = .pointer (some ⟨g2, 0, none⟩) ∧ wx.heap[g1]? = some (.cells cs1.toArray 126 (0, 0)) ∧ wx.heap[g2]? = some (.cells cs2.toArray 126 (0, 0)) ∧ Below w.heap.size w wx)
 case first =>
  go_region
  all_goals
   go_wp2_with fail
   go_meet
   first
    | exact ⟨_, _, rfl, rfl, (two_rows (heap_alloc2_old w _ _) (heap_alloc2_new w _ _) (by omega) _ _).1, (two_rows (heap_alloc2_old w _ _) (heap_alloc2_new w _ _) (by omega) _ _).2, below_setRow (below_setRow (below_alloc (below_alloc (Below.refl _ _) _) _).drew (by omega) _) (by omega) _⟩
    | exact ⟨_, _, rfl, rfl, (two_rows (heap_alloc2_old w _ _) (heap_alloc2_new w _ _) (by omega) _ _).2, (two_rows (heap_alloc2_old w _ _) (heap_alloc2_new w _ _) (by omega) _ _).1, below_setRow (below_setRow (below_alloc (below_alloc (Below.refl _ _) _) _).drew (by omega) _) (by omega) _⟩
    | exact ⟨_, _, rfl, rfl, (two_rows (heap_alloc2_new w _ _) (heap_alloc2_old w _ _) (by omega) _ _).1, (two_rows (heap_alloc2_new w _ _) (heap_alloc2_old w _ _) (by omega) _ _).2, below_setRow (below_setRow (below_alloc (below_alloc (Below.refl _ _) _) _).drew (by omega) _) (by omega) _⟩
    | exact ⟨_, _, rfl, rfl, (two_rows (heap_alloc2_new w _ _) (heap_alloc2_old w _ _) (by omega) _ _).2, (two_rows (heap_alloc2_new w _ _) (heap_alloc2_old w _ _) (by omega) _ _).1, below_setRow (below_setRow (below_alloc (below_alloc (Below.refl _ _) _) _).drew (by omega) _) (by omega) _⟩
 case rest =>
  obtain ⟨g1, g2, rfl, rfl, hg1, hg2, hG⟩ := hcut
  have E1 := E.move (grown_of_below hG (some qs))
  have HG := Aside0.mk hG
  have HS1 : Aside0 (wc.heap[qs]? = some (.cells #[.int .i64 0, .int .i64 0, .map none, .slice none 0 0] 79 (0, 0))) := ⟨(hG.block qs (blk_lt HS.out)).trans HS.out⟩
  have R1 := rowAt_block hg1 (by simpa using l1)
  have R2 := rowAt_block hg2 (by simpa using l2)
  simp only [] at R1 R2
  clear hg1 hg2 hG cb ch r0 r1 a1 a2 a3 a4
  obtain ⟨i5, e5, _, s5, _⟩ := info_parts info5
  have heq : ∀ w, (Op.equalIn 10000 126 (.agg cs1.toArray) (.agg cs2.toArray)).run Tryz.prog w = .ok (decide (hl.take 32 = hl.drop 32)) w := fun w => by
   rw [HC1.out, HC2.out]
   exact run_eq_nums (e := 5) (k := .u8) Tryz.underlying126 e5 s5 Tryz.underlying5 _ _ (by simp; omega) (by simp; omega) 9998 w
  have HBn : IsBytes hl := by rw [HL.out]; exact bytes_take (bytes_drop E.hbt _) _
  have HBY := Aside0.mk HBn
  clear HBn
  have z1 : (hl.take 2).length = 2 := by simp; omega
  have z2 : ((hl.drop 2).take 2).length = 2 := by simp; omega
  have z3 : ((hl.drop 4).take 2).length = 2 := by simp; omega
  have z4 : ((hl.drop 24).take 8).length = 8 := by simp; omega
  obtain ⟨many, hmany, bmany⟩ := numb_nat (hl.take 2) (bytes_take HBY.out _) 2 (by omega)
  obtain ⟨size, hsize, bsize⟩ := numb_nat ((hl.drop 2).take 2) (bytes_take (bytes_drop HBY.out _) _) 2 (by omega)
  obtain ⟨at0, hat, bat⟩ := numb_nat ((hl.drop 4).take 2) (bytes_take (bytes_drop HBY.out _) _) 2 (by omega)
  obtain ⟨ver, hver, bver⟩ := numb_nat ((hl.drop 24).take 8) (bytes_take (bytes_drop HBY.out _) _) 8 (by omega)
  have bver : ver < 18446744073709551616 := bver
  have bmany : many < 65536 := bmany
  have bsize : size < 65536 := bsize
  have bat : at0 < 65536 := bat
  have ZZ : Aside0 ((hl.take 2).length = 2 ∧ ((hl.drop 2).take 2).length = 2 ∧ ((hl.drop 4).take 2).length = 2 ∧ ((hl.drop 24).take 8).length = 8) := ⟨⟨z1, z2, z3, z4⟩⟩
  have HN : Aside0 (numb (hl.take 2) = many ∧ numb ((hl.drop 2).take 2) = size ∧ numb ((hl.drop 4).take 2) = at0 ∧ numb ((hl.drop 24).take 8) = ver) := ⟨⟨hmany, hsize, hat, hver⟩⟩
  have HF : Aside0 (headF xs nb i = if HeadOk hl nb many size ver then headG xs nb many size at0 ver else none) := ⟨headF_eq HL.out hmany hsize hat hver⟩
  clear z1 z2 z3 z4 hmany hsize hat hver
  by_cases hh : hl.take 32 = hl.drop 32
  rotate_left
  ·have hd : decide (hl.take 32 = hl.drop 32) = false := decide_eq_false hh
   have HH := Aside0.mk hh
   clear hh
   go_wp2_with fail
   refine (must_no _).mono ?_
   rintro e w' ⟨rfl, rfl⟩
   exact ⟨rfl, r1_none (by rw [HF.out, if_neg (fun h => HH.out h.1)]) (grown_of_below HG.out _) (StAny.below (StAny.of HS.out) HG.out (blk_lt HS.out))⟩
  have hd : decide (hl.take 32 = hl.drop 32) = true := decide_eq_true hh
  have HH := Aside0.mk hh
  clear hh
  clear e5 s5
  go_wp2_with fail
  refine (must_yes _).mono ?_
  rintro e w' ⟨rfl, rfl⟩
  clear heq hd R1 R2 harr l1 l2 q1 q2 HC1 HC2
  have hbw := fun (w1 : World) (h : Below W0.heap.size W0 w1) => Kd.C_below HBL.out h
  have HBW := Aside0.mk hbw
  clear hbw
  go_wp2_with fail
  refine (number_u16k many (some a0) 2 (c - i * 64) (hl.take 2) _ HN.out.1 ZZ.out.1 (C_takeN (HBW.out _ E1.hB) 2 (by omega)) (by omega) (by omega) (bytes_take HBY.out _)).mono ?_
  rintro e w' ⟨rfl, rfl⟩
  go_wp2_with fail
  refine (number_u16k size _ 2 (c - i * 64 - 2) ((hl.drop 2).take 2) _ HN.out.2.1 ZZ.out.2.1 (sub_C (HBW.out _ E1.hB) 2 2 (by omega) (by omega) (by omega)) (by omega) (by omega) (bytes_take (bytes_drop HBY.out _) _)).mono ?_
  rintro e w' ⟨rfl, rfl⟩
  go_wp2_with fail
  refine (number_u16k at0 _ 2 (c - i * 64 - 4) ((hl.drop 4).take 2) _ HN.out.2.2.1 ZZ.out.2.2.1 (sub_C (HBW.out _ E1.hB) 4 2 (by omega) (by omega) (by omega)) (by omega) (by omega) (bytes_take (bytes_drop HBY.out _) _)).mono ?_
  rintro e w' ⟨rfl, rfl⟩
  go_wp2_with fail
  refine (number_u64k ver _ 8 (c - i * 64 - 24) ((hl.drop 24).take 8) _ HN.out.2.2.2 ZZ.out.2.2.2 (sub_C (HBW.out _ E1.hB) 24 8 (by omega) (by omega) (by omega)) (by omega) (by omega) (bytes_take (bytes_drop HBY.out _) _)).mono ?_
  rintro e w' ⟨rfl, rfl⟩
  go_wp2_with fail
  refine (zero_n _ 18 (c - i * 64 - 6) ((hl.drop 6).take 18) _ (by simp; omega) (sub_C (HBW.out _ E1.hB) 6 18 (by omega) (by omega) (by omega)) (by omega) (by unfold maxLen; omega)).mono ?_
  rintro e w' ⟨rfl, rfl⟩
  by_cases hz : isZ ((hl.drop 6).take 18) = true ∧ 1 ≤ ver ∧ ver ≤ 1099511627776
  rotate_left
  ·have hnone : Aside0 (headF xs nb i = none) := ⟨by rw [HF.out, if_neg (fun h => hz ⟨h.2.1, h.2.2.1, h.2.2.2.1⟩)]⟩
   by_cases hz1 : isZ ((hl.drop 6).take 18) = true
   ·by_cases hz2 : 1 ≤ ver
    ·have d1 : decide (1 ≤ (ver : Int)) = true := decide_eq_true (by omega)
     have d2 : decide ((ver : Int) ≤ 1099511627776) = false := decide_eq_false (fun h => hz ⟨hz1, hz2, by omega⟩)
     clear hz hz2
     go_wp2_with fail
     refine (must_no _).mono ?_
     rintro e w' ⟨rfl, rfl⟩
     exact ⟨rfl, r1_none hnone.out (grown_of_below HG.out _) (StAny.below (StAny.of HS.out) HG.out (blk_lt HS.out))⟩
    ·have d1 : decide (1 ≤ (ver : Int)) = false := decide_eq_false (by omega)
     clear hz hz2
     go_wp2_with fail
     refine (must_no _).mono ?_
     rintro e w' ⟨rfl, rfl⟩
     exact ⟨rfl, r1_none hnone.out (grown_of_below HG.out _) (StAny.below (StAny.of HS.out) HG.out (blk_lt HS.out))⟩
   ·have d1 : isZ ((hl.drop 6).take 18) = false := by simpa using hz1
    clear hz hz1
    go_wp2_with fail
    refine (must_no _).mono ?_
    rintro e w' ⟨rfl, rfl⟩
    exact ⟨rfl, r1_none hnone.out (grown_of_below HG.out _) (StAny.below (StAny.of HS.out) HG.out (blk_lt HS.out))⟩
  obtain ⟨hz1, hz2, hz3⟩ := hz
  have hz2' : decide (1 ≤ (ver : Int)) = true := decide_eq_true (by omega)
  have hz3' : decide ((ver : Int) ≤ 1099511627776) = true := decide_eq_true (by omega)
  go_wp2_with fail
  refine (must_yes _).mono ?_
  rintro e w' ⟨rfl, rfl⟩
  obtain ⟨cb, ch⟩ := E1.cells
  by_cases hm : many ≤ (nb - 2) / 2 ∧ size ≤ many * 62 ∧ (many = 0 ∨ size > (many - 1) * 62)
  rotate_left
  ·have hnone : Aside0 (headF xs nb i = none) := ⟨by rw [HF.out, if_neg (fun h => hm ⟨h.2.2.2.2.1, h.2.2.2.2.2.1, h.2.2.2.2.2.2⟩)]⟩
   by_cases hm1 : many ≤ (nb - 2) / 2
   ·have d1 : decide ((many : Int) ≤ ((nb : Int) - 2) / 2) = true := decide_eq_true (by omega)
    by_cases hm2 : size ≤ many * 62
    ·have d2 : decide ((size : Int) ≤ (many : Int) * 62) = true := decide_eq_true (by omega)
     have hm0 : ¬ many = 0 := fun h => hm ⟨hm1, hm2, .inl h⟩
     have d3 : ((many : Int) == 0) = false := by rw [beq_eq_false_iff_ne]; omega
     have d4 : decide (((many : Int) - 1) * 62 < (size : Int)) = false := decide_eq_false (fun h => hm ⟨hm1, hm2, .inr (by omega)⟩)
     clear hm hm1 hm2
     go_wp2_with fail
     refine (must_no _).mono ?_
     rintro e w' ⟨rfl, rfl⟩
     exact ⟨rfl, r1_none hnone.out (grown_of_below HG.out _) (StAny.below (StAny.of HS.out) HG.out (blk_lt HS.out))⟩
    ·have d2 : decide ((size : Int) ≤ (many : Int) * 62) = false := decide_eq_false (by omega)
     clear hm hm1 hm2
     go_wp2_with fail
     refine (must_no _).mono ?_
     rintro e w' ⟨rfl, rfl⟩
     exact ⟨rfl, r1_none hnone.out (grown_of_below HG.out _) (StAny.below (StAny.of HS.out) HG.out (blk_lt HS.out))⟩
   ·have d1 : decide ((many : Int) ≤ ((nb : Int) - 2) / 2) = false := decide_eq_false (by omega)
    clear hm hm1
    go_wp2_with fail
    refine (must_no _).mono ?_
    rintro e w' ⟨rfl, rfl⟩
    exact ⟨rfl, r1_none hnone.out (grown_of_below HG.out _) (StAny.below (StAny.of HS.out) HG.out (blk_lt HS.out))⟩
  obtain ⟨hm1, hm2, hm3⟩ := hm
  have HFG : Aside0 (headF xs nb i = headG xs nb many size at0 ver) := ⟨by rw [HF.out, if_pos ⟨HH.out, hz1, hz2, hz3, hm1, hm2, hm3⟩]⟩
  clear HF
  have hm1' : decide ((many : Int) ≤ ((nb : Int) - 2) / 2) = true := decide_eq_true (by omega)
  have hm2' : decide ((size : Int) ≤ (many : Int) * 62) = true := decide_eq_true (by omega)
  go_upto_region 9 with fail
  go_cut [88] (fun _ wx => wx = wc)
  case first =>
   by_cases h0 : many = 0
   ·have h0' : ((many : Int) == 0) = true := by rw [beq_iff_eq]; omega
    clear h0 hm3
    go_wp2_with fail
    refine (must_yes _).mono ?_
    rintro e w' ⟨rfl, rfl⟩
    go_wp2_with fail
    go_meet
    rfl
   ·have h0' : ((many : Int) == 0) = false := by rw [beq_eq_false_iff_ne]; omega
    have hm3' : decide (((many : Int) - 1) * 62 < (size : Int)) = true := decide_eq_true (by omega)
    clear h0 hm3
    go_wp2_with fail
    refine (must_yes _).mono ?_
    rintro e w' ⟨rfl, rfl⟩
    go_wp2_with fail
    go_meet
    rfl
  case rest =>
  obtain rfl := hcut
  have c0 := blk_cell HS1.out 0
  have c1 := blk_cell HS1.out 1
  have c2 := blk_cell HS1.out 2
  have c3 := blk_cell HS1.out 3
  simp at c0 c1 c2 c3
  have f0 := blk_frozen HS1.out 0
  have f1 := blk_frozen HS1.out 1
  have f2 := blk_frozen HS1.out 2
  have f3 := blk_frozen HS1.out 3
  have lq := blk_lt HS1.out
  have kmm := @run_makeMap Tryz.prog
  go_upto_block 0 with fail
  generalize hw2 : ((((wc.setCell ⟨qs, 0, none⟩ (Value.int .i64 ↑i)).setCell ⟨qs, 1, none⟩ (Value.int .i64 ↑ver)).setCell ⟨qs, 2, none⟩ (Value.map (some wc.heap.size))).setCell ⟨qs, 3, none⟩ (Value.slice none 0 0)).alloc (Obj.map #[] 0) = w2
  obtain ⟨mb, hmb⟩ : ∃ mb, mb = wc.heap.size := ⟨_, rfl⟩
  have G2 : wc.grownBy w2 (some qs) := by
   rw [← hw2]
   exact grown_alloc (grown_trans (grown_trans (grown_trans (grown_set 0 _) (grown_set 1 _)) (grown_set 2 _)) (grown_set 3 _)) _
  have S2 : w2.heap[qs]? = some (.cells #[.int .i64 i, .int .i64 ver, .map (some mb), .slice none 0 0] 79 (0, 0)) := by
   rw [← hw2, hmb]
   exact (Below.heap_alloc _ _ _ (by simp [World.setCell]; exact lq)).trans (four_set HS1.out _ _ _ _)
  have M2 : MapAt kInt w2 mb [] := by
   rw [← hw2, hmb]
   have e : wc.heap.size = ((((wc.setCell ⟨qs, 0, none⟩ (Value.int .i64 ↑i)).setCell ⟨qs, 1, none⟩ (Value.int .i64 ↑ver)).setCell ⟨qs, 2, none⟩ (Value.map (some wc.heap.size))).setCell ⟨qs, 3, none⟩ (Value.slice none 0 0)).heap.size := by simp [World.setCell]
   have := MapAt.made (enc := kInt) ((((wc.setCell ⟨qs, 0, none⟩ (Value.int .i64 ↑i)).setCell ⟨qs, 1, none⟩ (Value.int .i64 ↑ver)).setCell ⟨qs, 2, none⟩ (Value.map (some wc.heap.size))).setCell ⟨qs, 3, none⟩ (Value.slice none 0 0))
   rw [← e] at this
   exact this
  have E2 := E1.move G2
  have mbw : w.heap.size ≤ mb := by rw [hmb]; exact HG.out.size
  have qmb : qs < mb := by rw [hmb]; exact lq
  have MP : Aside0 (w.grownBy w2 (some qs)) := ⟨grown_trans (grown_of_below HG.out (some qs)) G2⟩
  have S2 := Aside0.mk S2
  have M2 := Aside0.mk M2
  clear hw2 hmb c0 c1 c2 c3 f0 f1 f2 f3 lq kmm G2 cb ch HS1 HG E1 HS
  have l2 := (M2.out).lt
  have lb : qb < w.heap.size := blk_lt E.hb
  have lh : qh < w.heap.size := blk_lt E.hh
  have lw := MP.out.size
  have l0 := E.hB.size
  have hE2 := E2
  clear E2
  go_step3
  go_wp2_with fail
  go_loopw [11, 8, 12] (fun v a k wr => ChainRel W0 w w2 qb qh qs mb ad nb c i xs ver many at0 v a k wr) (fun _ _ k _ => many - (intOf k).toNat)
  case atStart => exact ⟨0, at0, [], [], rfl, rfl, by omega, bat, ⟨rfl⟩, ⟨Kd.R_nil _ _ _ _ _⟩, by simp, ⟨fun _ h => by simp at h⟩, ⟨M2.out⟩, ⟨S2.out⟩, hE2, ⟨MP.out⟩, by omega, by have := M2.out; obtain ⟨_, _, h, _⟩ := this; rw [h]; simp⟩
  case round =>
   obtain ⟨k, a, used, all, rfl, rfl, hk, ha, HCH, HOW, hal, HAB, HMP, HQS, E3, HG3, lr, hmb⟩ := hrel
   by_cases hkm : k = many
   ·subst hkm
    have hch := HCH.out
    rw [Nat.sub_self] at hch
    by_cases h0 : a = 0
    rotate_left
    ·have hnone : Aside0 (headF xs nb i = none) := ⟨by
      rw [HFG.out]; unfold headG
      rw [← hch, chainF, if_neg h0]⟩
     have d1 : ((a : Int) == 0) = false := by rw [beq_eq_false_iff_ne]; omega
     clear hch h0
     go_wp2_with fail
     refine (must_no _).mono ?_
     rintro e w' ⟨rfl, rfl⟩
     exact ⟨rfl, r1_none hnone.out HG3.out (StAny.of HQS.out)⟩
    subst h0
    have HCE : Aside0 (chainF xs nb k at0 [] [] = some (used, all)) := ⟨by rw [← hch, chainF, if_pos rfl]⟩
    clear hch HCH
    go_wp2_with fail
    refine (must_yes _).mono ?_
    rintro e w' ⟨rfl, rfl⟩
    obtain ⟨AA, ca, rfl, hla, hCA⟩ := Kd.R_reads HOW.out
    have HCA := Aside0.mk hCA
    have hsa : size ≤ all.length := by omega
    have lal : all.length ≤ 20000 := by omega
    have HAL := Aside0.mk hal
    have hcm : ca ≤ maxLen := by
     obtain ⟨_, inner, ho, _⟩ := HOW.out
     rcases ho.2 with ⟨h, _⟩ | ⟨g, cap, cur, hv, _, _, _, hm, _⟩
     ·injection h with _ _ h3; omega
     ·injection hv with _ _ h3; omega
    clear hCA hal
    obtain ⟨i5, hi5, _, hs5, _⟩ := info_parts info5
    obtain ⟨A2, hcut2, hread2⟩ := print_cut_of (P := Tryz.prog) (Value.int .u8) (0 : Int) 22 5 .i64 Tryz.underlying22 hi5 hs5 AA all.length ca size hsa
    have HRD := Aside0.mk (Kd.C_of_reads (h1 := fun _ => rfl) (hread2 wr all hla (Kd.reads_of_C (d := (0 : Int)) (h1 := fun _ => rfl) HCA.out)))
    clear hread2 hi5 hs5
    go_upto_region 21 with fail
    go_cut [133] (fun _ wx => wx = wr ∧ Aside0 (isZ (all.drop size) = true))
    case first =>
     by_cases hzz : isZ (all.drop size) = true
     ·have HZ := Aside0.mk hzz
      go_wp2_with fail
      refine (zero_n A2 (all.length - size) (ca - size) (all.drop size) _ (by simp) HRD.out (by omega) (by unfold maxLen; omega)).mono ?_
      rintro e w' ⟨rfl, rfl⟩
      go_wp2_with fail
      refine (must_yes _).mono ?_
      rintro e w' ⟨rfl, rfl⟩
      go_wp2_with fail
      go_meet
      exact ⟨rfl, HZ⟩
     ·have hzz : isZ (all.drop size) = false := by simpa using hzz
      have hnone : Aside0 (headF xs nb i = none) := ⟨by
       rw [HFG.out]; unfold headG
       rw [HCE.out]; simp [hzz]⟩
      go_wp2_with fail
      refine (zero_n A2 (all.length - size) (ca - size) (all.drop size) _ (by simp) HRD.out (by omega) (by unfold maxLen; omega)).mono ?_
      rintro e w' ⟨rfl, rfl⟩
      go_wp2_with fail
      refine (must_no _).mono ?_
      rintro e w' ⟨rfl, rfl⟩
      exact ⟨rfl, r1_none hnone.out HG3.out (StAny.of HQS.out)⟩
    case rest =>
    obtain ⟨rfl, HZ⟩ := hcut
    clear hcut2
    obtain ⟨bd, hbd, hbq, hstab⟩ := own_stable HOW.out qb (by omega)
    have HST := Aside0.mk hstab
    have b1 : bd ≠ qs := by have := E.bs; omega
    have b2 : bd ≠ wc.heap.size := by omega
    have HRd : Aside0 (Rdr bd (wc.heap[bd]?) (wc.alloc (.cells #[.slice AA size ca, .int .i64 0] 135)) wc.heap.size AA size ca 0 (all.take size)) := ⟨{
     hg := heap_alloc_new wc _
     hr := fun w' h => C_takeN (HST.out w' h) size (by omega)
     hn := by omega
     hc := by unfold maxLen; omega
     hb := bytes_take HAB.out _
     ho := Below.heap_alloc _ _ _ hbd
     hne := b2
     hbd := by simp; omega }⟩
    have hq5 : Aside0 ((wc.alloc (.cells #[.slice AA size ca, .int .i64 0] 135)).heap[qs]? = some (.cells #[.int .i64 i, .int .i64 ver, .map (some mb), .slice none 0 0] 79 (0, 0))) := ⟨(Below.heap_alloc _ _ _ (by omega)).trans HQS.out⟩
    have hm5 : Aside0 (MapAt kInt (wc.alloc (.cells #[.slice AA size ca, .int .i64 0] 135)) mb (usedMap used)) := ⟨HMP.out.move (Below.heap_alloc _ _ _ (by omega))⟩
    have hg5 : Aside0 (w.grownBy (wc.alloc (.cells #[.slice AA size ca, .int .i64 0] 135)) (some qs)) := ⟨grown_alloc HG3.out _⟩
    have HN0 : Aside0 (headF xs nb i = (recsF size 0 (all.take size)).map (fun rs => ⟨ver, used, rs⟩)) := ⟨by rw [HFG.out]; unfold headG; rw [HCE.out]; simp [HZ.out]⟩
    have hsz5 : (wc.alloc (.cells #[.slice AA size ca, .int .i64 0] 135)).heap.size = wc.heap.size + 1 := by simp
    have hS5 := Aside0.mk hsz5
    clear hsz5 HST hstab HOW HCA HRD HQS HMP HZ HFG HCE HBY HBL HL HH HBW ZZ HN HAL hz1 hz2' hz3' hm1' hm2' hm1 hm2 hm3 S2 M2 MP hE2 hmb hz2 hz3 bver bat H64 hk ha hi
    go_wp2_with fail
    generalize wc.alloc (Obj.cells #[Value.slice AA size ca, Value.int IntKind.i64 0] 135) = w5 at *
    generalize wc.heap.size = g5 at *
    generalize wc.heap[bd]? = od at *
    go_loopg [] size (fun f wr => RecRel w5 w bd od g5 qs mb i ver size (all.take size) used f wr)
    case atStart =>
     exact ⟨AA, size, ca, 0, all.take size, [], .slice none 0 0, HRd.out, ⟨by simp⟩, by simp; omega, Int.le_refl 0, hq5, hm5, ⟨Kd.R_nil _ _ _ _ _⟩, hg5, by simp, Nat.le_refl _⟩
    case round =>
     obtain ⟨A, n, cr, last, rest, acc, vr, HR6, HEQ, hrf, hlast, HQ6, HM6, HOR, HG6, hacc, hs6⟩ := hrel
     obtain ⟨k0, k1, f0, f1, l1⟩ := HR6.cells
     have hrl := HR6.len
     have HRL := Aside0.mk hrl
     by_cases hn0 : n = 0
     ·subst hn0
      have hr0 : rest = [] := List.eq_nil_of_length_eq_zero hrl
      have hfin : Aside0 (headF xs nb i = some ⟨ver, used, acc⟩) := ⟨by
       have h := HEQ.out
       subst hr0
       rw [HN0.out, ← h]
       cases gk <;> simp [recsF]⟩
      clear hrl hr0 HRL
      go_wp2_with fail
      simp only [Exit.noGoto]
      go_returns
      exact r1_some (w5 := w5) hfin.out HG6.out HQ6.out HM6.out mbw HOR.out (by have := hS5.out; omega)
     ·have hnp : 0 < n := by omega
      obtain ⟨f', rfl⟩ : ∃ f', gk = f' + 1 := ⟨gk - 1, by omega⟩
      have c3 := blk_cell HQ6.out 3
      simp at c3
      have g3 := blk_frozen HQ6.out 3
      have hn0' : ¬ rest.length = 0 := by omega
      clear hn0 hrl
      by_cases hro : RecOk n last rest
      rotate_left
      ·have hnone : Aside0 (headF xs nb i = none) := ⟨by
        have h := HEQ.out
        rw [recs_no f' last rest hn0' (by rw [HRL.out]; exact hro)] at h
        rw [HN0.out, ← h]; rfl⟩
       go_wp2_with fail
       go_region_dies
       all_goals
        refine (record_no bd od g5 A n cr last rest _ HR6.drew hro hlast).mono ?_
        rintro e w' ⟨rfl, hgw⟩
        exact ⟨rfl, r1_none hnone.out (grown_via HG6.out ⟨hgw.os, hgw.tape, hgw.output, hgw.size, hgw.block⟩ (by omega)) (StAny.ofR ((hgw.block qs (blk_lt HQ6.out) (by intro h; injection h; omega)).trans HQ6.out) HOR.out)⟩
      ·obtain ⟨rk1, rk2, rk3, rk4, rk5, rk6⟩ := id hro
       have hHro := Aside0.mk hro
       have qs5 : qs < w5.heap.size := by have := hS5.out; omega
       have g55 : g5 < w5.heap.size := by have := hS5.out; omega
       have mb5 : mb < w5.heap.size := by have := hS5.out; omega
       have hlenA : acc.length + 1 ≤ 65536 := by omega
       have HACC := Aside0.mk hacc
       obtain ⟨body, hbody⟩ : ∃ body, body = (rest.drop 10).take (recS rest).toNat := ⟨_, rfl⟩
       have harm : Aside0 (Calls Tryz.prog 92 #[.pointer (some ⟨g5, 0, none⟩)] wr.drew fun e w6 => ∃ A2 c2, e = .returned (.agg #[.int .i64 (recN rest), .slice A2 body.length c2]) ∧ RecStep w wr w6 w5.heap.size g5 qs mb bd i ver n od vr acc rest body used A2 c2) :=
        ⟨(record_yes bd od g5 A n cr last rest _ HR6.drew rk1 rk2 rk3 rk4 rk5 rk6 hlast).mono fun e w6 h => by rw [hbody]; exact rec_step HQ6.out HM6.out HOR.out HG6.out hs6 qs5 mb5 g55 (by omega) (by omega) (by omega) h⟩
       have HBD := Aside0.mk hbody
       clear hbody
       clear hro hacc rk1 rk2 rk3 rk4 rk5 rk6
       go_wp2_with fail
       go_region_law (first
        | (go_simp; go_at_call 92; refine harm.out.mono ?_; rintro e w6 ⟨A2, c2, rfl, F6⟩; have c63 := F6.c3; have g63 := F6.f3; have a63 : ∀ ob : Obj, (w6.alloc ob).cell? ⟨qs, 3, none⟩ = some vr := fun ob => pw_cell_below (below_alloc (Below.refl _ _) ob) c63)
        | (refine app_parcel w5.heap.size 150 153 vr acc (⟨recN rest, body⟩ : S40) (fun k => wr.heap.size ≤ k) (by rfl) (by rfl) (by rfl) (by rfl) F6.hm F6.hn F6.ho F6.hs hlenA ?_; intro v7 w7 hR7 hB7; obtain ⟨A7, n7, c7, rfl⟩ : ∃ A7 n7 c7, v7 = .slice A7 n7 c7 := (by obtain ⟨A7, c7, h7, _⟩ := Kd.R_reads hR7; exact ⟨A7, _, c7, h7⟩); have HR7 := Aside0.mk hR7; have HB7 := Aside0.mk hB7; clear hR7; have c73 : w7.cell? ⟨qs, 3, none⟩ = some vr := (hB7.cell (p := ⟨qs, 3, none⟩) qs5).trans c63; have g73 : w7.frozen? ⟨qs, 3, none⟩ = false := (hB7.frozen (p := ⟨qs, 3, none⟩) qs5).trans g63; clear hB7))
       all_goals
        go_wp2_with fail
        go_roundg f'
        case measure => omega
        case rel => exact rec_round F6 HBD.out HR7.out HB7.out hHro.out HRL.out HEQ.out hrf HACC.out qs5 mb5 g55 (by have := hS5.out; omega) (by omega) (by omega) b1 (by have := hS5.out; omega)
   ·have hkm' : ((k : Int) == (many : Int)) = false := by rw [beq_eq_false_iff_ne]; omega
    by_cases hcond : 2 ≤ a ∧ a < nb ∧ used.contains a = false
    rotate_left
    ·have hnone : Aside0 (headF xs nb i = none) := ⟨by
      rw [HFG.out]; unfold headG
      rw [← HCH.out, show many - k = (many - (k + 1)) + 1 by omega, chain_no xs nb _ a used all hcond]⟩
     have s2 := blk_cell HQS.out 2
     simp at s2
     by_cases ha1 : 2 ≤ a
     ·have d1 : decide (2 ≤ (a : Int)) = true := decide_eq_true (by omega)
      by_cases ha2 : a < nb
      ·have ha3 : used.contains a = true := by
        cases h : used.contains a with
        | true => rfl
        | false => exact absurd ⟨ha1, ha2, h⟩ hcond
       have hlk : (Instr.lookup 77 (.map (some mb)) (.int .i64 (a : Int)) false).run Tryz.prog wr = .ok (.bool true) wr := by
        have := run_lookup (kInt_enc Tryz.underlying3) Tryz.underlying77 HMP.out (a : Int) (z := .bool false) (by kernel_rfl)
        rw [usedMap_get, ha3] at this
        exact this
       clear hcond ha3
       go_wp2_with fail
       refine (must_no _).mono ?_
       rintro e w' ⟨rfl, rfl⟩
       exact ⟨rfl, r1_none hnone.out HG3.out (StAny.of HQS.out)⟩
      ·have d2 : decide (a < nb) = false := decide_eq_false ha2
       clear hcond ha2
       go_wp2_with fail
       refine (must_no _).mono ?_
       rintro e w' ⟨rfl, rfl⟩
       exact ⟨rfl, r1_none hnone.out HG3.out (StAny.of HQS.out)⟩
     ·have d1 : decide (2 ≤ (a : Int)) = false := decide_eq_false (by omega)
      clear hcond ha1
      go_wp2_with fail
      refine (must_no _).mono ?_
      rintro e w' ⟨rfl, rfl⟩
      exact ⟨rfl, r1_none hnone.out HG3.out (StAny.of HQS.out)⟩
    obtain ⟨ha1, ha2, ha3⟩ := hcond
    have ha1' : decide (2 ≤ (a : Int)) = true := decide_eq_true (by omega)
    have s2 := blk_cell HQS.out 2
    simp at s2
    have hlk : (Instr.lookup 77 (.map (some mb)) (.int .i64 (a : Int)) false).run Tryz.prog wr = .ok (.bool false) wr := by
     have := run_lookup (kInt_enc Tryz.underlying3) Tryz.underlying77 HMP.out (a : Int) (z := .bool false) (by kernel_rfl)
     rw [usedMap_get, ha3] at this
     exact this
    obtain ⟨w3, hup, hM3, hG3⟩ := run_mapUpdate (kInt_enc Tryz.underlying3) Tryz.underlying77 HMP.out (a : Int) (.bool true)
    have hup : (Instr.mapUpdate 77 (.map (some mb)) (.int .i64 (a : Int)) (.bool true)).run Tryz.prog wr = .ok () w3 := hup
    rw [usedMap_put used a ha3] at hM3
    have HM3 := Aside0.mk hM3
    have HGm := Aside0.mk hG3
    clear hM3 hG3
    have hBm : Below mb wr w3 := (Below.refl mb wr).grown HGm.out (by omega) (fun k hk => by injection hk with hk; omega)
    have E4 := E3.move2 hBm (by omega) (by omega) (by omega)
    obtain ⟨cb, ch⟩ := E4.cells
    have HQ4 : Aside0 (w3.heap[qs]? = some (.cells #[.int .i64 i, .int .i64 ver, .map (some mb), .slice none 0 0] 79 (0, 0))) := ⟨(hBm.block qs qmb).trans HQS.out⟩
    obtain ⟨a1, hea⟩ : ∃ a1, a1 = ad.add (a * 64) := ⟨_, rfl⟩
    have hC0 := E.blk a (by omega)
    rw [← hea] at hC0
    have HC0 := Aside0.mk hC0
    have B64 := C_len hC0
    have BIs : IsBytes (blkL xs a) := bytes_take (bytes_drop E.hbt _) _
    have HBI := Aside0.mk BIs
    clear hC0 BIs
    obtain ⟨a2, hnum, hba2⟩ := numb_nat ((blkL xs a).take 2) (bytes_take HBI.out _) 2 (List.length_take_le _ _)
    have HNU := Aside0.mk hnum
    clear hnum
    have HOW4 : Aside0 (Kd.R (Kd.int .u8) 5 w3 w2.heap.size (fun _ => True) u11 all) := ⟨Kd.R_grown (Kd.R_mono (Kd.R_bound HOW.out) (fun k hk => (show w2.heap.size ≤ k from hk.2.1))) HGm.out (fun k hk e => by injection e with e; omega) |> fun r => Kd.R_mono r (fun _ _ => trivial)⟩
    have l3 := HGm.out.size
    have HE := Aside0.mk hea.symm
    clear hea
    go_wp2_with fail
    refine (must_yes _).mono ?_
    rintro e w' ⟨rfl, rfl⟩
    go_wp2_with fail
    refine (block_any _ _ _ _ _ hn hc (by omega)).mono ?_
    rintro e w' ⟨rfl, rfl⟩
    simp only [Option.map_some, HE.out]
    go_wp2_with (at_builtin; refine Kd.R_append_row (Value.int .u8) (0 : Int) (h1 := fun _ => rfl) (w0 := w3) w2.heap.size rfl (.tmp 123) (.tmp 125) 22 5 (.int .u8 0) 1 rfl Tryz.underlying22 info5 rfl (by decide) u11 all ((blkL xs a).drop 2) (some ⟨a1.block, a1.off + 2, none⟩) 62 (c - a * 64 - 2) (fun _ => True) rfl rfl (fun _ _ => trivial) HOW4.out ?aR (Below.refl _ _) ?aZ ?aL ?_)
    case aR =>
     have h := sub_C (Kd.C_below HC0.out E4.hB) 2 62 (by omega) (by omega) (by omega)
     rwa [List.take_of_length_le (by simp; omega)] at h
    case aZ => omega
    case aL => omega
    intro v1 w4 hR hB4 hG4 hat4
    have HR4 := Aside0.mk hR
    have HB4 := Aside0.mk hB4
    clear hR hG4 hat4
    have E5 := E4.move2 hB4 (by omega) (by omega) (by omega)
    clear hB4
    go_wp2_with fail
    refine (number_u16k a2 (some a1) 2 (c - a * 64) ((blkL xs a).take 2) _ HNU.out (by simp; omega) (C_takeN (Kd.C_below HC0.out E5.hB) 2 (by omega)) (by omega) (by omega) (bytes_take HBI.out _)).mono ?_
    rintro e w' ⟨rfl, rfl⟩
    go_wp2_with fail
    go_roundw
    case rel =>
     exact ⟨k + 1, a2, used ++ [a], all ++ (blkL xs a).drop 2, by go_num, rfl, by omega, hba2,
      ⟨by rw [← HCH.out, show many - k = (many - (k + 1)) + 1 by omega, chain_step xs nb _ a used all a2 ha1 ha2 ha3 HNU.out]⟩,
      ⟨HR4.out⟩, by rw [List.length_append, List.length_drop, B64, hal]; omega, ⟨fun y hy => by rcases List.mem_append.1 hy with h | h; exact HAB.out y h; exact bytes_drop HBI.out _ y h⟩,
      ⟨HM3.out.move (HB4.out.block mb l2)⟩, ⟨(HB4.out.block qs (by omega)).trans HQ4.out⟩, E5, ⟨grown_then (grown_via HG3.out HGm.out mbw) HB4.out lw⟩, by have := HB4.out.size; omega,
      by obtain ⟨_, _, h, _⟩ := HM3.out.move (HB4.out.block mb l2); rw [h]; simp⟩
    case measure => simp [intOf]; omega
theorem as_wrong (v : Value) (w : World) : (Instr.typeAssert (.iface 145 v) 20 145 true).run Tryz.prog w = .ok (.tuple #[v, .bool true]) w := by kernel_rfl
theorem catch_panicking (p : Addr) (x : Bool) (older : List PanicEntry) (w : World) (hc : w.cell? p = some (.bool x)) (hz : w.frozen? p = false) (hp : p.block < w.heap.size) :
  CallsD Tryz.prog 100 #[.pointer (some p)] (.panicking ({ v := .iface 145 (.agg #[]), recovered := false } :: older)) w fun e u' w' =>
   e = .returned (.tuple #[]) ∧ u' = .panicking ({ v := .iface 145 (.agg #[]), recovered := true } :: older) ∧ ∃ o, w' = (w.alloc o).setCell p (.bool false) := by
 refine callsD_of_wpS Tryz.func100 rfl fun c₀ cs hu => ?_
 apply wpS_seq
 apply wpS_region
 simp [wpOpsS, go_sem, recoverD, hu, Tryz.ntmps100, Exit.thenS]
 refine wpS_of_wp ?_
 have has := as_wrong
 have hc' : ∀ o, (w.alloc o).cell? p = some (.bool x) := fun o => (World.cell?_alloc_lt w o p hp).trans hc
 have hz' : ∀ o, (w.alloc o).frozen? p = false := fun o => (World.frozen?_alloc_past _ _ _ hp).trans hz
 go_wp2
 refine ⟨rfl, _, by cases c₀; rfl, .tuple #[], by simp [results, Tryz.results100], rfl, rfl, _, rfl⟩
theorem catch_idle (p : Addr) (w : World) :
  CallsD Tryz.prog 100 #[.pointer (some p)] .returning w fun e u' w' => e = .returned (.tuple #[]) ∧ u' = .returning ∧ w' = w := by
 refine callsD_of_wpS Tryz.func100 rfl fun c₀ cs hu => ?_
 apply wpS_seq
 apply wpS_region
 simp [wpOpsS, go_sem, recoverD, hu, Tryz.ntmps100, Exit.thenS]
 refine wpS_of_wp ?_
 go_wp2
 cases c₀
 simp_all [bodyPostS, results, Tryz.results100]
theorem tried_any (cap : Array Value) (w : World) {R R' : Ending → World → Prop} (h : Calls Tryz.prog 87 cap (w.alloc (.cells #[.bool false] 4 (0, 0))) R)
  (hR : ∀ e w', R e w' → w'.heap[w.heap.size]? = some (.cells #[.bool false] 4 (0, 0)) ∧
   ((e = .returned (.tuple #[]) ∧ R' (.returned (.bool true)) (w'.setCell ⟨w.heap.size, 0, none⟩ (.bool true))) ∨
    (e = .panicked [{ v := .iface 145 (.agg #[]), recovered := false }] ∧ ∀ o, R' (.returned (.bool false)) ((w'.alloc o).setCell ⟨w.heap.size, 0, none⟩ (.bool false))))) :
  Calls Tryz.prog 86 #[.func (.func 87) #[] cap] w R' := by
 have hmf : ∀ (fn : Fn) (first cap : Array Value) (w : World), (Instr.makeFunc fn first cap).run Tryz.prog w = .ok (.func fn first cap) w := fun _ _ _ _ => rfl
 go_enter_defers Tryz.func86, Tryz.ntmps86
 go_wp2_with fail
 refine h.mono ?_
 intro e w1 hr
 obtain ⟨hb, hs⟩ := hR e w1 hr
 have hlt : w.heap.size < w1.heap.size := blk_lt hb
 have hc1 : w1.cell? ⟨w.heap.size, 0, none⟩ = some (.bool false) := by simpa using blk_cell hb 0
 have hz1 : w1.frozen? ⟨w.heap.size, 0, none⟩ = false := free_of_one hb
 rcases hs with ⟨rfl, hs⟩ | ⟨rfl, hs⟩
 ·have hR := Aside0.mk hR
  have hs := Aside0.mk hs
  go_wp2_with fail
  refine leaves_cons (f := 100) (args := #[.pointer (some ⟨w.heap.size, 0, none⟩)]) (by simp) (by simp [go_sem]) ?_
  refine (catch_idle ⟨w.heap.size, 0, none⟩ _).mono ?_
  rintro e u' w'' ⟨rfl, rfl, rfl⟩
  simp [Leaves, settle, results, Tryz.results86, go_sem, hc1]
  exact hs.1
 ·have hR := Aside0.mk hR
  refine leaves_cons (f := 100) (args := #[.pointer (some ⟨w.heap.size, 0, none⟩)]) (by simp) (by simp [go_sem]) ?_
  refine (catch_panicking ⟨w.heap.size, 0, none⟩ false _ _ hc1 hz1 hlt).mono ?_
  rintro e u' w'' ⟨rfl, rfl, o, rfl⟩
  have hc2 : (w1.alloc o).cell? ⟨w.heap.size, 0, none⟩ = some (.bool false) := (World.cell?_alloc_lt w1 o _ hlt).trans hc1
  simp [Leaves, settle, results, Tryz.results86, go_sem, hc2]
  exact hs o
/-- a state's map and records, from a bound on -/
structure StAt (B : Nat) (st : HSt) (mb : Nat) (vr : Value) (w : World) : Prop where
 map : MapAt kInt w mb (usedMap st.used)
 mbB : B ≤ mb
 recs : Kd.R k40 40 w B (fun b => b ≠ mb) vr st.recs
theorem StAt.step {B : Nat} {st : HSt} {mb : Nat} {vr : Value} {w w1 : World} (h : StAt B st mb vr w) (hm : ∀ k, B ≤ k → k < w.heap.size → w1.heap[k]? = w.heap[k]?) : StAt B st mb vr w1 where
 map := h.map.move (hm _ h.mbB h.map.lt)
 mbB := h.mbB
 recs := Kd.R_mono (Kd.R_step (Kd.R_bound h.recs) (fun k hk hl => hm k hk.2.1 hl)) (fun _ hk => hk.1)
theorem StAt.lower {B B' : Nat} {st : HSt} {mb : Nat} {vr : Value} {w : World} (h : StAt B st mb vr w) (hb : B' ≤ B) : StAt B' st mb vr w where
 map := h.map
 mbB := Nat.le_trans hb h.mbB
 recs := Kd.R_lower h.recs hb
def RTPost (w : World) (qs i : Nat) (xs : List Int) (nb : Nat) (e : Ending) (w1 : World) : Prop :=
 Below w.heap.size w w1 ∧ match headF xs nb i with
 | none => e = .returned (.bool false) ∧ StAny qs w1
 | some st => e = .returned (.bool true) ∧ ∃ mb vr, w1.heap[qs]? = some (.cells #[.int .i64 i, .int .i64 st.ver, .map (some mb), vr] 79 (0, 0)) ∧ StAt (qs + 1) st mb vr w1
theorem rt_of (w W4 : World) (qs bb i : Nat) (xs : List Int) (nb : Nat) (hB : Below w.heap.size w W4) (hq : w.heap.size ≤ qs) (hqb : qs < bb) (hbb : W4.heap[bb]? = some (.cells #[.bool false] 4 (0, 0))) (e : Ending) (w' : World) (h : R1Post w qs i xs nb W4 e w') :
  w'.heap[bb]? = some (.cells #[.bool false] 4 (0, 0)) ∧
   ((e = .returned (.tuple #[]) ∧ RTPost w qs i xs nb (.returned (.bool true)) (w'.setCell ⟨bb, 0, none⟩ (.bool true))) ∨
    (e = .panicked [{ v := .iface 145 (.agg #[]), recovered := false }] ∧ ∀ o, RTPost w qs i xs nb (.returned (.bool false)) ((w'.alloc o).setCell ⟨bb, 0, none⟩ (.bool false)))) := by
 have hbl := blk_lt hbb
 unfold R1Post at h
 unfold RTPost
 generalize headF xs nb i = hf at *
 cases hf with
 | none =>
  obtain ⟨rfl, hg, x, y, m, A, n, c, hs⟩ := h
  refine ⟨(hg.block bb hbl (by simp; omega)).trans hbb, .inr ⟨rfl, fun o => ⟨?_, rfl, x, y, m, A, n, c, ?_⟩⟩⟩
  ·have h1 := hB.grown hg hB.size (fun k hk => by injection hk with hk; omega)
   exact (h1.alloc h1.size o).setCell (show w.heap.size ≤ bb by omega) _
  ·refine (Below.heap_setCell _ _ _ _ (show qs ≠ bb by omega)).trans ((Below.heap_alloc _ _ _ (blk_lt hs)).trans hs)
 | some st =>
  obtain ⟨rfl, hg, mb, vr, hs, hm, hmb, hR⟩ := h
  refine ⟨(hg.block bb hbl (by simp; omega)).trans hbb, .inl ⟨rfl, ?_, rfl, mb, vr, ?_, ?_⟩⟩
  ·have h1 := hB.grown hg hB.size (fun k hk => by injection hk with hk; omega)
   exact h1.setCell (show w.heap.size ≤ bb by omega) _
  ·exact (Below.heap_setCell _ _ _ _ (show qs ≠ bb by omega)).trans hs
  ·have hst : StAt W4.heap.size st mb vr w' := ⟨hm, hmb, hR⟩
   refine (hst.step (fun k hk _ => Below.heap_setCell _ _ _ _ (show k ≠ bb by omega))).lower (by omega)
def ReadPost (w : World) (i : Nat) (xs : List Int) (nb : Nat) (e : Ending) (w1 : World) : Prop :=
 Below w.heap.size w w1 ∧ match headF xs nb i with
 | none => ∃ x y m A n c, e = .returned (.tuple #[.agg #[.int .i64 x, .int .i64 y, .map m, .slice A n c], .bool false])
 | some st => ∃ mb vr, e = .returned (.tuple #[.agg #[.int .i64 i, .int .i64 st.ver, .map (some mb), vr], .bool true]) ∧ StAt w.heap.size st mb vr w1
theorem read_any (ad : Addr) (n c i : Nat) (xs : List Int) (w : World) (hr : Kd.C (Kd.int .u8) w (some ad) n xs) (hn : n ≤ c) (hc : n ≤ maxLen) (hbt : IsBytes xs)
  (hi : (i + 1) * 64 ≤ n) (nb : Nat) (hnb : n = nb * 64) (h8 : 8 ≤ nb) (h256 : nb ≤ 256) :
  Calls Tryz.prog 66 #[.slice (some ad) n c, .int .i64 i] w fun e w' => ReadPost w i xs nb e w' := by
 have hmf : ∀ (fn : Fn) (first cap : Array Value) (w : World), (Instr.makeFunc fn first cap).run Tryz.prog w = .ok (.func fn first cap) w := fun _ _ _ _ => rfl
 have HR := Aside0.mk hr
 have HI := Aside0.mk hi
 have HNB := Aside0.mk hnb
 clear hr hi hnb
 go_enter Tryz.func66, Tryz.ntmps66
 go_wp2_with fail
 generalize h1 : w.alloc (Obj.cells #[Value.slice (some ad) n c] 22) = w1
 generalize h2 : w1.alloc (Obj.cells #[Value.int IntKind.i64 ↑i] 3) = w2
 generalize h3 : w2.alloc (Obj.cells #[Value.int IntKind.i64 0, Value.int IntKind.i64 0, Value.map none, Value.slice none 0 0] 79) = w3
 have z1 : w1.heap.size = w.heap.size + 1 := by rw [← h1]; simp
 have z2 : w2.heap.size = w.heap.size + 2 := by rw [← h2]; simp [z1]
 have z3 : w3.heap.size = w.heap.size + 3 := by rw [← h3]; simp [z2]
 have bq : w1.heap[w.heap.size]? = some (.cells #[.slice (some ad) n c] 22 (0, 0)) := by rw [← h1]; exact heap_alloc_new _ _
 have bh : w2.heap[w.heap.size + 1]? = some (.cells #[.int .i64 i] 3 (0, 0)) := by rw [← h2, ← z1]; exact heap_alloc_new _ _
 have bs : w3.heap[w.heap.size + 1 + 1]? = some (.cells #[.int .i64 0, .int .i64 0, .map none, .slice none 0 0] 79 (0, 0)) := by rw [← h3, show w.heap.size + 1 + 1 = w2.heap.size by omega]; exact heap_alloc_new _ _
 have B1 : Below w1.heap.size w1 w2 := by rw [← h2]; exact below_alloc (Below.refl _ _) _
 have B2 : Below w2.heap.size w2 w3 := by rw [← h3]; exact below_alloc (Below.refl _ _) _
 have B0 : Below w.heap.size w w1 := by rw [← h1]; exact below_alloc (Below.refl _ _) _
 have B3 : Below w3.heap.size w3 (w3.alloc (.cells #[.bool false] 4 (0, 0))) := below_alloc (Below.refl _ _) _
 have bt : (w3.alloc (.cells #[.bool false] 4 (0, 0))).heap[w3.heap.size]? = some (.cells #[.bool false] 4 (0, 0)) := heap_alloc_new _ _
 have BB : Below w.heap.size w (w3.alloc (.cells #[.bool false] 4 (0, 0))) := ((B0.trans (B1.mono (by omega))).trans (B2.mono (by omega))).trans (B3.mono (by omega))
 have EE : RdEnv w (w3.alloc (.cells #[.bool false] 4 (0, 0))) w.heap.size (w.heap.size + 1) (w.heap.size + 1 + 1) ad n c i xs := {
  hb := (B3.block _ (by omega)).trans ((B2.block _ (by omega)).trans ((B1.block _ (by omega)).trans bq))
  hh := (B3.block _ (by omega)).trans ((B2.block _ (by omega)).trans bh)
  hr := HR.out
  hn := hn
  hc := hc
  hbt := hbt
  hB := BB
  b0 := by omega
  h0 := by omega
  s0 := by omega
  bh := by omega
  bs := by omega
  hs := by omega }
 have hcall := tried_any _ w3 (read1_any w _ _ _ ad n c i xs _ EE ((B3.block _ (by omega)).trans bs) HI.out nb HNB.out h8 h256) (rt_of w _ _ w3.heap.size i xs nb BB (by omega) (by omega) bt)
 clear EE BB B3 bt B0 B1 B2 bq bh bs h1 h2 h3
 refine hcall.mono ?_
 clear hcall
 intro e w4 hp
 obtain ⟨hb, hp⟩ := hp
 have hq : ∃ x y m A n c ok, e = .returned (.bool ok) ∧ w4.heap[w.heap.size + 1 + 1]? = some (.cells #[.int .i64 x, .int .i64 y, .map m, .slice A n c] 79 (0, 0)) := by
  generalize headF xs nb i = hf at *
  cases hf with
  | none => obtain ⟨rfl, x, y, m, A, n, c, h⟩ := hp; exact ⟨x, y, m, A, n, c, _, rfl, h⟩
  | some st => obtain ⟨rfl, mb, vr, h, hS⟩ := hp; obtain ⟨A, c, rfl, _⟩ := Kd.R_reads hS.recs; exact ⟨_, _, _, _, _, _, _, rfl, h⟩
 obtain ⟨vx, vy, vm, vA, vn, vc, ok, rfl, hq⟩ := hq
 have hb := Aside0.mk hb
 have hp := Aside0.mk hp
 have c0 := blk_cell hq 0
 have c1 := blk_cell hq 1
 have c2 := blk_cell hq 2
 have c3 := blk_cell hq 3
 simp at c0 c1 c2 c3
 have f0 := blk_frozen hq 0
 have f1 := blk_frozen hq 1
 have f2 := blk_frozen hq 2
 have f3 := blk_frozen hq 3
 go_wp2_with fail
 have h4 := four_set hq (.int .i64 vx) (.int .i64 vy) (.map vm) (.slice vA vn vc)
 have G4 : w4.grownBy ((((w4.setCell ⟨w.heap.size + 1 + 1, 0, none⟩ (.int .i64 vx)).setCell ⟨w.heap.size + 1 + 1, 1, none⟩ (.int .i64 vy)).setCell ⟨w.heap.size + 1 + 1, 2, none⟩ (.map vm)).setCell ⟨w.heap.size + 1 + 1, 3, none⟩ (.slice vA vn vc)) (some (w.heap.size + 1 + 1)) :=
  grown_trans (grown_trans (grown_trans (grown_set 0 _) (grown_set 1 _)) (grown_set 2 _)) (grown_set 3 _)
 generalize ((((w4.setCell ⟨w.heap.size + 1 + 1, 0, none⟩ (.int .i64 vx)).setCell ⟨w.heap.size + 1 + 1, 1, none⟩ (.int .i64 vy)).setCell ⟨w.heap.size + 1 + 1, 2, none⟩ (.map vm)).setCell ⟨w.heap.size + 1 + 1, 3, none⟩ (.slice vA vn vc)) = w5 at *
 have e0 := blk_cell h4 0
 have e1 := blk_cell h4 1
 have e2 := blk_cell h4 2
 have e3 := blk_cell h4 3
 simp at e0 e1 e2 e3
 refine bodyPost_ret (v := .tuple #[.agg #[.int .i64 vx, .int .i64 vy, .map vm, .slice vA vn vc], .bool ok]) (by simp [results, Tryz.results66, go_sem, e0, e1, e2, e3]) rfl ?_
 refine ⟨(hb.out).grown G4 hb.out.size (fun k hk => by injection hk with hk; omega), ?_⟩
 have hp := hp.out
 generalize headF xs nb i = hf at *
 cases hf with
 | none => obtain ⟨h, _⟩ := hp; injection h with h; injection h with h; subst h; exact ⟨_, _, _, _, _, _, rfl⟩
 | some st =>
  obtain ⟨h, mb, vr, hq2, hS⟩ := hp
  injection h with h; injection h with h; subst h
  rw [hq] at hq2
  injection hq2 with hq2; injection hq2 with hq2; injection hq2 with hq2
  simp at hq2
  obtain ⟨e1, e2, e3, e4⟩ := hq2
  refine ⟨mb, vr, ?_, ?_⟩
  ·rw [e1, e2, e3, ← e4]
  ·refine (hS.step (fun k hk hl => ?_)).lower (by omega)
   exact G4.block k hl (by simp; omega)
def sizeOk (n : Nat) : Bool := n % 64 == 0 && decide (8 ≤ n / 64) && decide (n / 64 ≤ 256)
theorem sized_any (A : Option Addr) (n c : Nat) (w : World) (hn : n ≤ c) (hc : n ≤ maxLen) :
  Calls Tryz.prog 60 #[.slice A n c] w fun e w' => e = .returned (.int .i64 (if sizeOk n then 0 else 200)) ∧ w = w' := by
 unfold maxLen at hc
 go_enter Tryz.func60, Tryz.ntmps60
 by_cases h1 : n % 64 = 0
 ·obtain ⟨nb, rfl⟩ : ∃ nb, n = nb * 64 := ⟨n / 64, by omega⟩
  clear h1
  by_cases h2 : nb < 8
  ·have hd2 : decide ((nb : Int) < 8) = true := decide_eq_true (by omega)
   have hr : sizeOk (nb * 64) = false := by unfold sizeOk; simp; omega
   rw [hr]
   clear h2 hr
   go_wp2_with fail
   go_returns
   exact ⟨rfl, rfl⟩
  ·have hd2 : decide ((nb : Int) < 8) = false := decide_eq_false (by omega)
   by_cases h3 : nb ≤ 256
   ·have hd3 : decide (256 < (nb : Int)) = false := decide_eq_false (by omega)
    have hr : sizeOk (nb * 64) = true := by unfold sizeOk; simp; omega
    rw [hr]
    clear h2 h3 hr
    go_wp2_with fail
    go_returns
    exact ⟨rfl, rfl⟩
   ·have hd3 : decide (256 < (nb : Int)) = true := decide_eq_true (by omega)
    have hr : sizeOk (nb * 64) = false := by unfold sizeOk; simp; omega
    rw [hr]
    clear h2 h3 hr
    go_wp2_with fail
    go_returns
    exact ⟨rfl, rfl⟩
 ·have hr : sizeOk n = false := by unfold sizeOk; simp [h1]
  have hm : ((n : Int) % 64 == 0) = false := by rw [beq_eq_false_iff_ne]; omega
  have hm' : ((n : Int) % 64 != 0) = true := by rw [bne_iff_ne]; omega
  rw [hr]
  clear h1 hr
  go_wp2_with fail
  go_returns
  exact ⟨rfl, rfl⟩
/-- the best right head of the first ones -/
def bestK (xs : List Int) (nb : Nat) : Nat → Option (Nat × HSt)
 | 0 => none
 | k + 1 => match headF xs nb k with
  | none => bestK xs nb k
  | some s => match bestK xs nb k with
   | none => some (k, s)
   | some (j, t) => if t.ver < s.ver then some (k, s) else some (j, t)
/-- a disk's block -/
def BestAt (B : Nat) (A : Option Addr) (n c : Nat) (v : Value) (w : World) : Option (Nat × HSt) → Prop
 | none => v = .pointer none
 | some (j, st) => ∃ g mb vr, v = .pointer (some ⟨g, 0, none⟩) ∧ w.heap[g]? = some (.cells #[.slice A n c, .int .i64 j, .int .i64 st.ver, .map (some mb), vr] 81 (0, 0)) ∧ B ≤ g ∧ g ≠ mb ∧ StAt B st mb vr w
theorem BestAt.step {B : Nat} {A : Option Addr} {n c : Nat} {v : Value} {w w1 : World} {o : Option (Nat × HSt)} (h : BestAt B A n c v w o) (hm : ∀ k, B ≤ k → k < w.heap.size → w1.heap[k]? = w.heap[k]?) : BestAt B A n c v w1 o := by
 cases o with
 | none => exact h
 | some p =>
  obtain ⟨j, st⟩ := p
  obtain ⟨g, mb, vr, hv, hg, hB, hgm, hS⟩ := h
  exact ⟨g, mb, vr, hv, (hm g hB (blk_lt hg)).trans hg, hB, hgm, hS.step hm⟩
def OpenPost (w : World) (xs : List Int) (nb : Nat) (A : Option Addr) (n c : Nat) (e : Ending) (w' : World) : Prop :=
 Below w.heap.size w w' ∧ ∃ v, e = .returned (.tuple #[v, .int .i64 (if (bestK xs nb 2).isSome then 0 else 200)]) ∧ BestAt w.heap.size A n c v w' (bestK xs nb 2)
def OpenRel (W0 : World) (xs : List Int) (nb : Nat) (A : Option Addr) (n c : Nat) (v k : Value) (w : World) : Prop :=
 ∃ j : Nat, k = .int .i64 j ∧ j ≤ 2 ∧ Aside0 (Below W0.heap.size W0 w) ∧ Aside0 (BestAt W0.heap.size A n c v w (bestK xs nb j)) ∧ ∃ p, v = .pointer p
theorem new_best {B B' : Nat} {A : Option Addr} {n c nq j : Nat} {st : HSt} {mb : Nat} {v : Value} {w1 : World} {o1 : Obj} (hS : StAt B' st mb v w1) (hB : B ≤ B') (hB' : B' ≤ w1.heap.size) :
  BestAt B A n c (.pointer (some ⟨w1.heap.size + 1, 0, none⟩)) (((w1.alloc o1).drewN nq).alloc (.cells #[.slice A n c, .int .i64 j, .int .i64 st.ver, .map (some mb), v] 81)) (some (j, st)) := by
 have hz : ((w1.alloc o1).drewN nq).heap.size = w1.heap.size + 1 := by simp [World.drewN]
 have h1 : Below w1.heap.size w1 ((w1.alloc o1).drewN nq) := pw_below_drewN (below_alloc (Below.refl _ _) _) nq
 have h2 : Below w1.heap.size w1 (((w1.alloc o1).drewN nq).alloc (.cells #[.slice A n c, .int .i64 j, .int .i64 st.ver, .map (some mb), v] 81)) := h1.trans ((below_alloc (Below.refl _ _) _).mono (by omega))
 have hl := hS.map.lt
 refine ⟨w1.heap.size + 1, mb, v, rfl, ?_, by omega, by omega, (hS.step (fun k _ hk => h2.block k hk)).lower hB⟩
 rw [← hz]
 exact heap_alloc_new _ _
theorem open_any (ad : Addr) (n c : Nat) (xs : List Int) (w : World) (hr : Kd.C (Kd.int .u8) w (some ad) n xs) (hn : n ≤ c) (hbt : IsBytes xs)
  (nb : Nat) (hnb : n = nb * 64) (h8 : 8 ≤ nb) (h256 : nb ≤ 256) :
  Calls Tryz.prog 44 #[.slice (some ad) n c] w fun e w' => OpenPost w xs nb (some ad) n c e w' := by
 subst hnb
 have hc : nb * 64 ≤ maxLen := by unfold maxLen; omega
 have HR := Aside0.mk hr
 have HBT := Aside0.mk hbt
 have hs : sizeOk (nb * 64) = true := by unfold sizeOk; simp; omega
 clear hr hbt
 go_enter Tryz.func44, Tryz.ntmps44
 go_wp2_with fail
 refine (sized_any (some ad) (nb * 64) c w hn hc).mono ?_
 rintro e w' ⟨rfl, rfl⟩
 rw [hs]
 go_wp2_with fail
 go_loopw [5, 14] (fun v k wr => OpenRel w xs nb (some ad) (nb * 64) c v k wr) (fun _ k _ => 2 - (intOf k).toNat)
 case atStart => exact ⟨0, rfl, by omega, ⟨Below.refl _ _⟩, ⟨rfl⟩, _, rfl⟩
 case round =>
  obtain ⟨j, rfl, hj, HB, HBest, p, rfl⟩ := hrel
  by_cases hj2 : j = 2
  ·subst hj2
   obtain ⟨o, ho⟩ : ∃ o, o = bestK xs nb 2 := ⟨_, rfl⟩
   cases o with
   | none =>
    have hbest := HBest.out
    rw [← ho] at hbest
    have hp : p = none := by injection hbest
    subst hp
    have HO := Aside0.mk ho
    clear ho hbest
    go_wp2_with fail
    go_returns
    exact ⟨HB.out, _, by rw [← HO.out]; rfl, by rw [← HO.out]; rfl⟩
   | some q =>
    have hbest := HBest.out
    rw [← ho] at hbest
    obtain ⟨i, t⟩ := q
    obtain ⟨g, mb', vr', hv, hrest⟩ := hbest
    have hp : p = some ⟨g, 0, none⟩ := by injection hv
    subst hp
    have HO := Aside0.mk ho
    have HRE := Aside0.mk hrest
    clear ho hrest hv
    go_wp2_with fail
    go_returns
    exact ⟨HB.out, _, by rw [← HO.out]; rfl, by rw [← HO.out]; exact ⟨g, mb', vr', rfl, HRE.out⟩⟩
  ·have hd : decide ((j : Int) < 2) = true := decide_eq_true (by omega)
   have hj3 : j < 2 := by omega
   clear hj hj2
   go_wp2_with fail
   refine (read_any ad (nb * 64) c j xs wr (Kd.C_below HR.out HB.out) hn hc HBT.out (by omega) nb rfl h8 h256).mono ?_
   rintro e w1 ⟨hb1, hp⟩
   have HB1 : Aside0 (Below w.heap.size w w1) := ⟨HB.out.trans (hb1.mono HB.out.size)⟩
   have HBest1 : Aside0 (BestAt w.heap.size (some ad) (nb * 64) c (.pointer p) w1 (bestK xs nb j)) := ⟨HBest.out.step (fun k _ hk => hb1.block k hk)⟩
   have HLT : Aside0 (wr.heap.size ≤ w1.heap.size) := ⟨hb1.size⟩
   obtain ⟨hf, hhf⟩ : ∃ hf, hf = headF xs nb j := ⟨_, rfl⟩
   rw [← hhf] at hp
   have HHF := Aside0.mk hhf
   clear hhf hb1 HBest
   cases hf with
   | none =>
    obtain ⟨x, y, m, A, n, cc, rfl⟩ := hp
    go_wp2_with fail
    go_quiet (fail)
    go_wp2_with fail
    go_roundw
    case measure => simp [intOf]; omega
    case rel =>
     have h2 : Below w1.heap.size w1 ((w1.alloc (.cells #[.int .i64 x, .int .i64 y, .map m, .slice A n cc] 79)).drewN nq) := pw_below_drewN (below_alloc (Below.refl _ _) _) nq
     refine ⟨j + 1, by simp, by omega, ⟨HB1.out.trans (h2.mono HB1.out.size)⟩, ⟨?_⟩, _, rfl⟩
     rw [bestK, ← HHF.out]
     exact HBest1.out.step (fun k _ hk => h2.block k hk)
   | some st =>
    obtain ⟨mb, vr, rfl, hS⟩ := hp
    obtain ⟨A, cc, rfl, _⟩ := Kd.R_reads hS.recs
    have HS := Aside0.mk hS
    clear hS
    obtain ⟨o, ho⟩ : ∃ o, o = bestK xs nb j := ⟨_, rfl⟩
    have hbest := HBest1.out
    rw [← ho] at hbest
    have HO := Aside0.mk ho
    clear ho HBest1
    cases o with
    | none =>
     obtain rfl : p = none := by injection hbest
     go_wp2_with fail
     go_quiet (fail)
     go_wp2_with fail
     go_roundw
     case measure => simp [intOf]; omega
     case rel =>
      refine ⟨j + 1, by simp, by omega, ⟨?_⟩, ⟨?_⟩, _, rfl⟩
      ·have h1 := HB1.out
       exact below_alloc (pw_below_drewN (below_alloc h1 _) nq) _
      ·rw [bestK, ← HHF.out, ← HO.out]
       exact new_best HS.out HB.out.size HLT.out
    | some q =>
     obtain ⟨i, t⟩ := q
     obtain ⟨g, mb', vr', hv, hg, hgB, hgm, hS'⟩ := hbest
     obtain rfl : p = some ⟨g, 0, none⟩ := by injection hv
     have hgl := blk_lt hg
     have hgc := blk_cell hg 2
     simp at hgc
     have hg2 : ∀ ob, (w1.alloc ob).cell? ⟨g, 2, none⟩ = some (.int .i64 t.ver) := fun ob => (World.cell?_alloc_lt w1 ob _ hgl).trans hgc
     have HG := Aside0.mk hg
     have HS' := Aside0.mk hS'
     clear hg hS' hgc hv
     by_cases hver : t.ver < st.ver
     ·have hvd : decide (t.ver < st.ver) = true := decide_eq_true hver
      have HV := Aside0.mk hver
      clear hver
      go_wp2_with fail
      go_quiet (fail)
      go_wp2_with fail
      go_roundw
      case measure => simp [intOf]; omega
      case rel =>
       refine ⟨j + 1, by simp, by omega, ⟨?_⟩, ⟨?_⟩, _, rfl⟩
       ·have h1 := HB1.out
        exact below_alloc (pw_below_drewN (below_alloc h1 _) nq) _
       ·rw [bestK, ← HHF.out, ← HO.out]
        simp only [HV.out, if_true]
        exact new_best HS.out HB.out.size HLT.out
     ·have hvd : decide (t.ver < st.ver) = false := decide_eq_false hver
      have HV := Aside0.mk hver
      clear hver
      go_wp2_with fail
      go_quiet (fail)
      go_wp2_with fail
      go_roundw
      case measure => simp [intOf]; omega
      case rel =>
       have h2 : Below w1.heap.size w1 ((w1.alloc (.cells #[.int .i64 j, .int .i64 st.ver, .map (some mb), .slice A st.recs.length cc] 79)).drewN nq) := pw_below_drewN (below_alloc (Below.refl _ _) _) nq
       refine ⟨j + 1, by simp, by omega, ⟨HB1.out.trans (h2.mono HB1.out.size)⟩, ⟨?_⟩, _, rfl⟩
       rw [bestK, ← HHF.out, ← HO.out]
       simp only [if_neg (Int.not_lt.mpr HV.out)]
       have hb : BestAt w.heap.size (some ad) (nb * 64) c (.pointer (some ⟨g, 0, none⟩)) w1 (some (i, t)) := ⟨g, mb', vr', rfl, HG.out, hgB, hgm, HS'.out⟩
       exact hb.step (fun k _ hk => h2.block k hk)
/-- the state of a disk's bytes, with the head that tells it -/
def diskF (xs : List Int) : Option (Nat × HSt) := if sizeOk xs.length then bestK xs (xs.length / 64) 2 else none
theorem open_none (A : Option Addr) (n c : Nat) (w : World) (hn : n ≤ c) (hm : n ≤ maxLen) (hs : sizeOk n = false) :
  Calls Tryz.prog 44 #[.slice A n c] w fun e w' => e = .returned (.tuple #[.pointer none, .int .i64 200]) ∧ w = w' := by
 have HS := Aside0.mk hs
 clear hs
 go_enter Tryz.func44, Tryz.ntmps44
 go_wp2_with fail
 refine (sized_any A n c w hn hm).mono ?_
 rintro e w' ⟨rfl, rfl⟩
 rw [HS.out]
 go_wp2_with fail
 go_returns
 exact ⟨rfl, rfl⟩
theorem open_all (A : Option Addr) (n c : Nat) (xs : List Int) (w : World) (hr : Kd.C (Kd.int .u8) w A n xs) (hn : n ≤ c) (hbt : IsBytes xs) :
  Calls Tryz.prog 44 #[.slice A n c] w fun e w' => Below w.heap.size w w' ∧ ∃ v, e = .returned (.tuple #[v, .int .i64 (if (diskF xs).isSome then 0 else 200)]) ∧ BestAt w.heap.size A n c v w' (diskF xs) := by
 have hl : xs.length = n := Kd.C_len hr
 have hm := Kd.C_max hr
 unfold diskF
 rw [hl]
 cases hs : sizeOk n with
 | false =>
  refine (open_none A n c w hn (by unfold maxLen; omega) hs).mono ?_
  rintro e w' ⟨rfl, rfl⟩
  exact ⟨Below.refl _ _, _, rfl, rfl⟩
 | true =>
  have hs' := hs
  unfold sizeOk at hs'
  simp at hs'
  obtain ⟨⟨h1, h2⟩, h3⟩ := hs'
  obtain ⟨ad, x, rfl, _, _⟩ := cellN hr 0 (by omega) (by omega)
  exact open_any ad n c xs w hr hn hbt (n / 64) (by omega) (by omega) (by omega)
instance (xs : List Int) : Decidable (IsBytes xs) := by unfold IsBytes; infer_instance
def disk_Version.f (l0 : List Int) : Option (Int × Int) := if IsBytes l0 then some (match diskF l0 with | none => (0, 200) | some (_, st) => (st.ver, 0)) else none
/-- k blocks from i on, but for the used ones -/
def freeL (used : List Nat) : Nat → Nat → List Int
 | _, 0 => []
 | i, k + 1 => if used.contains i then freeL used (i + 1) k else (i : Int) :: freeL used (i + 1) k
theorem freeL_len (used : List Nat) : ∀ k i, (freeL used i k).length ≤ k
 | 0, _ => Nat.le_refl _
 | k + 1, i => by
  unfold freeL
  have := freeL_len used k (i + 1)
  split <;> simp <;> omega
def FreeRel (w : World) (g mb : Nat) (A : Option Addr) (n c j : Nat) (st : HSt) (vr : Value) (nb : Nat) (v k : Value) (wr : World) : Prop :=
 ∃ (i : Nat) (acc : List Int), k = .int .i64 i ∧ 2 ≤ i ∧ i ≤ nb ∧ acc.length ≤ i ∧ Aside0 (Below w.heap.size w wr) ∧ Aside0 (Kd.R (Kd.int .i64) 3 wr w.heap.size (fun _ => True) v acc) ∧ Aside0 (acc ++ freeL st.used i (nb - i) = freeL st.used 2 (nb - 2))
theorem free_any (g mb : Nat) (A : Option Addr) (n c j : Nat) (st : HSt) (vr : Value) (nb : Nat) (w : World) (hg : w.heap[g]? = some (.cells #[.slice A n c, .int .i64 j, .int .i64 st.ver, .map (some mb), vr] 81 (0, 0)))
  (hm : MapAt kInt w mb (usedMap st.used)) (hn : n = nb * 64) (h8 : 8 ≤ nb) (h256 : nb ≤ 256) :
  Calls Tryz.prog 45 #[.pointer (some ⟨g, 0, none⟩)] w fun e w' => ∃ v, e = .returned v ∧ Kd.R (Kd.int .i64) 3 w' w.heap.size (fun _ => True) v (freeL st.used 2 (nb - 2)) ∧ Below w.heap.size w w' := by
 subst hn
 have hgl := blk_lt hg
 have c0 := blk_cell hg 0
 have c3 := blk_cell hg 3
 simp at c0 c3
 have hml := hm.lt
 have HM := Aside0.mk hm
 have HG := Aside0.mk hg
 clear hm hg
 go_enter Tryz.func45, Tryz.ntmps45
 go_wp2_with fail
 go_loopw [3, 4] (fun v k wr => FreeRel w g mb A (nb * 64) c j st vr nb v k wr) (fun _ k _ => nb - (intOf k).toNat)
 case atStart => exact ⟨2, [], rfl, by omega, by omega, by simp, ⟨Below.refl _ _⟩, ⟨Kd.R_nil _ _ _ _ _⟩, ⟨rfl⟩⟩
 case round =>
  obtain ⟨i, acc, rfl, hi2, hin, hal, HB, HO, HE⟩ := hrel
  have d0 : wr.cell? ⟨g, 0, none⟩ = some (.slice A (nb * 64) c) := (HB.out.cell (p := ⟨g, 0, none⟩) hgl).trans c0
  have d3 : wr.cell? ⟨g, 3, none⟩ = some (.map (some mb)) := (HB.out.cell (p := ⟨g, 3, none⟩) hgl).trans c3
  have HM1 : Aside0 (MapAt kInt wr mb (usedMap st.used)) := ⟨HM.out.move (HB.out.block mb hml)⟩
  by_cases hd : i < nb
  ·have hd' : decide (i < nb) = true := decide_eq_true hd
   obtain ⟨u, hu⟩ : ∃ u, u = st.used.contains i := ⟨_, rfl⟩
   have hlk : (Instr.lookup 77 (.map (some mb)) (.int .i64 (i : Int)) false).run Tryz.prog wr = .ok (.bool u) wr := by
    have := run_lookup (kInt_enc Tryz.underlying3) Tryz.underlying77 HM1.out (i : Int) (z := .bool false) (by kernel_rfl)
    rw [usedMap_get, ← hu] at this
    exact this
   have HU := Aside0.mk hu
   clear hu
   have he : nb - i = (nb - (i + 1)) + 1 := by omega
   have HEI := Aside0.mk he
   clear he
   cases u with
   | true =>
    go_wp2_with fail
    go_roundw
    case measure => simp [intOf]; omega
    case rel =>
     refine ⟨i + 1, acc, by go_num, by omega, by omega, by omega, ⟨HB.out⟩, ⟨HO.out⟩, ⟨?_⟩⟩
     have h := HE.out
     rw [HEI.out, freeL, ← HU.out] at h
     simpa using h
   | false =>
    have hl0 := HB.out.size
    go_wp2_with (at_builtin; refine Kd.R_append (Kd.int .i64) (w0 := w) w.heap.size rfl (.tmp 23) (.tmp 25) 24 3 (.int .i64 0) 8 rfl Tryz.underlying24 info3 rfl (by decide) (by omega) _ acc (i : Int) [.int .i64 (i : Int)] (fun _ => True) (fun _ => False) rfl rfl ?aP (fun _ hk => hk.elim) ?aF ?aO ?aB ?aS ?aL ?_)
    case aP => exact rfl
    case aB => exact HB.out
    case aF => exact fun _ _ => trivial
    case aO => exact HO.out
    case aS => exact HB.out.size
    case aL => omega
    intro v1 w2 ho hb hg hat
    have HO2 := Aside0.mk ho
    have HB2 := Aside0.mk hb
    clear ho hb hg hat
    go_wp2_with fail
    go_roundw
    case measure => simp [intOf]; omega
    case rel =>
     refine ⟨i + 1, acc ++ [(i : Int)], by go_num, by omega, by omega, by simp; omega, ⟨HB2.out⟩, ⟨HO2.out⟩, ⟨?_⟩⟩
     have h := HE.out
     rw [HEI.out, freeL, ← HU.out] at h
     simpa using h
  ·have hd' : decide (i < nb) = false := decide_eq_false hd
   obtain rfl : i = nb := by omega
   go_wp2_with fail
   go_returns
   refine ⟨_, rfl, ?_, HB.out⟩
   have h := HE.out
   rw [Nat.sub_self, freeL, List.append_nil] at h
   rw [← h]
   exact HO.out
def disk_Open.f (l0 : List Int) : Option (List S40 × Int) := if IsBytes l0 then some (match diskF l0 with | none => ([], 200) | some (_, st) => (st.recs, 0)) else none
theorem disk_Open.calls (A0 : Option Addr) (c0 : Nat) (l0 : List Int) (r1 : List S40) (r2 : Int) (w : World) (hr0 : Kd.C (Kd.int .u8) w A0 l0.length l0) (hc0 : l0.length ≤ c0) (h : disk_Open.f l0 = some (r1, r2)) :
  Calls Tryz.prog 19 #[.slice A0 l0.length c0] w fun e w' => ∃ v0_ : Value, e = .returned (.tuple #[v0_, .int .i64 r2]) ∧ Kd.R k40 40 w' w.heap.size (fun _ => True) v0_ r1 ∧ Below w.heap.size w w' := by
 unfold disk_Open.f at h
 by_cases hb : IsBytes l0
 rotate_left
 ·rw [if_neg hb] at h; exact absurd h (by simp)
 rw [if_pos hb] at h
 have HH := Aside0.mk h
 have HR := Aside0.mk hr0
 have HB := Aside0.mk hb
 clear h hr0 hb
 go_enter Tryz.func19, Tryz.ntmps19
 go_wp2_with fail
 refine (open_all A0 _ c0 l0 w HR.out hc0 HB.out).mono ?_
 rintro e w1 ⟨hb, v, rfl, hbest⟩
 have HW := Aside0.mk hb
 have hh := HH.out
 clear hb HH HR HB
 generalize diskF l0 = o at *
 cases o with
 | none =>
  obtain rfl : v = .pointer none := hbest
  obtain ⟨rfl, rfl⟩ : r1 = [] ∧ r2 = 200 := by simpa [eq_comm] using hh
  clear hh
  simp only [Option.isSome_none, Bool.false_eq_true, if_false]
  go_wp2_with fail
  go_returns
  exact ⟨_, rfl, Kd.R_nil _ _ _ _ _, HW.out⟩
 | some q =>
  obtain ⟨j, st⟩ := q
  obtain ⟨g, mb, vr, rfl, hg, hgB, hgm, hS⟩ := hbest
  obtain ⟨rfl, rfl⟩ : r1 = st.recs ∧ r2 = 0 := by simpa [eq_comm] using hh
  have hc := blk_cell hg 4
  simp at hc
  have HS := Aside0.mk hS
  clear hh hS hg
  simp only [Option.isSome_some, if_true]
  go_wp2_with fail
  go_returns
  exact ⟨_, rfl, Kd.R_mono HS.out.recs (fun _ _ => trivial), HW.out⟩
def disk_Check.f (l0 : List Int) : Option Int := if IsBytes l0 then some (match diskF l0 with | none => 200 | some _ => 0) else none
def disk_Free.f (l0 : List Int) : Option (List Int × Int) := if IsBytes l0 then some (match diskF l0 with | none => ([], 200) | some (_, st) => (freeL st.used 2 (l0.length / 64 - 2), 0)) else none
theorem disk_size {xs : List Int} {q : Nat × HSt} (h : diskF xs = some q) : ∃ nb, xs.length = nb * 64 ∧ 8 ≤ nb ∧ nb ≤ 256 := by
 unfold diskF at h
 cases hs : sizeOk xs.length with
 | false => rw [hs] at h; exact absurd h (by simp)
 | true =>
  unfold sizeOk at hs
  simp at hs
  obtain ⟨⟨h1, h2⟩, h3⟩ := hs
  exact ⟨xs.length / 64, by omega, by omega, by omega⟩
theorem disk_Free.calls (A0 : Option Addr) (c0 : Nat) (l0 : List Int) (r1 : List Int) (r2 : Int) (w : World) (hr0 : Kd.C (Kd.int .u8) w A0 l0.length l0) (hc0 : l0.length ≤ c0) (h : disk_Free.f l0 = some (r1, r2)) :
  Calls Tryz.prog 20 #[.slice A0 l0.length c0] w fun e w' => ∃ v0_ : Value, e = .returned (.tuple #[v0_, .int .i64 r2]) ∧ Kd.R (Kd.int .i64) 3 w' w.heap.size (fun _ => True) v0_ r1 ∧ Below w.heap.size w w' := by
 unfold disk_Free.f at h
 by_cases hb : IsBytes l0
 rotate_left
 ·rw [if_neg hb] at h; exact absurd h (by simp)
 rw [if_pos hb] at h
 have HH := Aside0.mk h
 have HR := Aside0.mk hr0
 have HB := Aside0.mk hb
 clear h hr0 hb
 go_enter Tryz.func20, Tryz.ntmps20
 go_wp2_with fail
 refine (open_all A0 _ c0 l0 w HR.out hc0 HB.out).mono ?_
 rintro e w1 ⟨hb, v, rfl, hbest⟩
 have HW := Aside0.mk hb
 have hh := HH.out
 clear hb HH HR HB
 obtain ⟨o, ho⟩ : ∃ o, o = diskF l0 := ⟨_, rfl⟩
 rw [← ho] at hh hbest
 rw [← ho]
 cases o with
 | none =>
  obtain rfl : v = .pointer none := hbest
  obtain ⟨rfl, rfl⟩ : r1 = [] ∧ r2 = 200 := by simpa [eq_comm] using hh
  clear hh ho
  simp only [Option.isSome_none, Bool.false_eq_true, if_false]
  go_wp2_with fail
  go_returns
  exact ⟨_, rfl, Kd.R_nil _ _ _ _ _, HW.out⟩
 | some q =>
  obtain ⟨nb, hn, h8, h256⟩ := disk_size ho.symm
  obtain ⟨j, st⟩ := q
  obtain ⟨g, mb, vr, rfl, hg, hgB, hgm, hS⟩ := hbest
  obtain ⟨rfl, rfl⟩ : r1 = freeL st.used 2 (l0.length / 64 - 2) ∧ r2 = 0 := by simpa [eq_comm] using hh
  have HS := Aside0.mk hS
  have HG := Aside0.mk hg
  have HN := Aside0.mk hn
  clear hh hS hg ho hn
  simp only [Option.isSome_some, if_true]
  go_wp2_with fail
  refine (free_any g mb A0 _ c0 j st vr nb _ HG.out HS.out.map HN.out h8 h256).mono ?_
  rintro e w2 ⟨v2, rfl, hR, hB⟩
  have HR2 := Aside0.mk hR
  have HB2 := Aside0.mk hB
  clear hR hB
  go_wp2_with fail
  go_returns
  refine ⟨_, rfl, ?_, HW.out.trans (HB2.out.mono HW.out.size)⟩
  rw [HN.out, Nat.mul_div_cancel _ (by omega)]
  exact Kd.R_lower HR2.out HW.out.size
end Go.Proofs.YtcdpkdehogcjnaaGreat.Print
