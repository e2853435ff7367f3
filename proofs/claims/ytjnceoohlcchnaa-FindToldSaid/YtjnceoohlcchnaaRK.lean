/- FindTold: for every map, number, two hints and two lists of hints the statement answers true, and all read afterwards as before; without condition. -/
import Derived.Test.YtjnceoohlcchnaaRI
import Derived.Test.YtjnceoohlcchnaaRJ
import Derived.Deep.Strs
import Derived.Lib.LaidTab
import Derived.Test.YtjnceoohlcchnaaRows
import Derived.WalkKit
import Derived.ProofKit
import Derived.OpenShut
import Derived.ShutString
import Derived.ChangeOld
import Derived.Below
import Derived.SizedLaws
set_option linter.unusedVariables false
set_option linter.unusedSimpArgs false
/-! The law of newer hints, walked. -/
namespace Go.Proofs.Ytjnceoohlcchnaa.Print
open Go Go.RowKit Go.Deep Go.Proofs.YtjnceoohlcchnaaW.PrintWords Go.Proofs.YtjnceoohlcchnaaW.PrintLast Go.Proofs.YtjnceoohlcchnaaW.PrintMore

def eqRow (x : S31) (b : List S31) : Bool := b.any fun y => (x.f0 == y.f0) && (x.f2 == y.f2)
theorem eqTime_step (a b : List S31) {i : Nat} {x : S31} (hx : a[i]? = some x) : eqTime (a.take (i + 1)) b = (eqTime (a.take i) b || eqRow x b) := by
  obtain ⟨hi, rfl⟩ := List.getElem?_eq_some_iff.1 hx
  unfold eqTime eqRow
  rw [List.take_succ_eq_append_getElem hi, List.any_append, List.any_cons, List.any_nil, Bool.or_false]
theorem eqRow_step (x : S31) (b : List S31) {i : Nat} {y : S31} (hy : b[i]? = some y) : eqRow x (b.take (i + 1)) = (eqRow x (b.take i) || ((x.f0 == y.f0) && (x.f2 == y.f2))) := by
  obtain ⟨hi, rfl⟩ := List.getElem?_eq_some_iff.1 hy
  unfold eqRow
  rw [List.take_succ_eq_append_getElem hi, List.any_append, List.any_cons, List.any_nil, Bool.or_false]
set_option maxRecDepth 100000 in
set_option maxHeartbeats 16000000 in
theorem told_walk (A : Option Addr) (c : Nat) (m : List S36) (place : Int) (g h : S31) (A4 : Option Addr) (c4 : Nat) (a : List S31) (A5 : Option Addr) (c5 : Nat) (b : List S31) (w : World) (hr : Kd.C k36 w A m.length m) (hc : m.length ≤ c)
    (ha : Kd.C k31 w A4 a.length a) (hca : a.length ≤ c4) (hb : Kd.C k31 w A5 b.length b) (hcb : b.length ≤ c5) (hf : FitP m) :
    Calls Try.prog 10 #[.slice A m.length c, .int .i64 place, .agg #[.int .i64 g.f0, .int .i64 g.f1, .int .i64 g.f2], .agg #[.int .i64 h.f0, .int .i64 h.f1, .int .i64 h.f2], .slice A4 a.length c4, .slice A5 b.length c5] w fun e w' => e = .returned (.bool true) ∧ Below w.heap.size w w' := by
  have HR := Aside0.mk hr
  have HF := Aside0.mk hf
  have HA := Aside0.mk ha
  have HB := Aside0.mk hb
  clear hr hf ha hb
  obtain ⟨g0, g1, g2⟩ := g
  obtain ⟨h0, h1, h2⟩ := h
  dsimp only
  have hu := Try.underlying31
  go_enter Try.func10, Try.ntmps10
  go_upto_region 1 with fail
  obtain ⟨gg, hgg⟩ : ∃ g, g = w.heap.size := ⟨_, rfl⟩
  obtain ⟨wg, hwg⟩ : ∃ W, W = w.alloc (Obj.cells #[Value.int IntKind.i64 g0, Value.int IntKind.i64 g1, Value.int IntKind.i64 g2] 31) := ⟨_, rfl⟩
  rw [← hwg]
  obtain ⟨gh, hgh⟩ : ∃ g, g = w.heap.size + 1 := ⟨_, rfl⟩
  obtain ⟨w1, hw1⟩ : ∃ W, W = wg.alloc (Obj.cells #[Value.int IntKind.i64 h0, Value.int IntKind.i64 h1, Value.int IntKind.i64 h2] 31) := ⟨_, rfl⟩
  rw [← hw1]
  rw [← hgh, ← hgg]
  have hBg : Below w.heap.size w wg := by rw [hwg]; exact below_alloc (Below.refl _ _) _
  have hBh : Below wg.heap.size wg w1 := by rw [hw1]; exact below_alloc (Below.refl _ _) _
  have HB1 := Aside0.mk (below_step hBg hBh)
  have HG : Aside0 (w1.heap[gg]? = some (.cells #[.int .i64 g0, .int .i64 g1, .int .i64 g2] 31 (0, 0))) := ⟨blk_below (by rw [hwg, hgg]; exact heap_alloc_new _ _) hBh⟩
  have HH : Aside0 (w1.heap[gh]? = some (.cells #[.int .i64 h0, .int .i64 h1, .int .i64 h2] 31 (0, 0))) := ⟨by rw [hw1, hgh, show w.heap.size + 1 = wg.heap.size by rw [hwg]; exact (Array.size_push (xs := w.heap) _).symm]; exact heap_alloc_new _ _⟩
  clear hwg hw1 hgg hgh hBg hBh
  go_wp2_with fail
  refine (awake_any w1).mono ?_
  rintro e w2 ⟨rfl, hB⟩
  have HB2 := Aside0.mk (below_step HB1.out hB)
  have HG2 := Aside0.mk (blk_below HG.out hB)
  have HH2 := Aside0.mk (blk_below HH.out hB)
  clear hB
  go_wp2_with fail
  refine (few_any A m.length c m w2 rfl (Kd.C_below HR.out HB2.out) hc HF.out).mono ?_
  rintro e w3 ⟨rfl, hB⟩
  have HB3 := Aside0.mk (below_step HB2.out hB)
  have HG3 := Aside0.mk (blk_below HG2.out hB)
  have HH3 := Aside0.mk (blk_below HH2.out hB)
  clear hB HB1 HB2 HG HG2 HH HH2
  cases hfw : fewB m with
  | false =>
    clear hfw
    go_wp2_with fail
    go_returns
    exact ⟨rfl, HB3.out⟩
  | true =>
  have HS := Aside0.mk (few_short hfw)
  have hml : m.length ≤ 1000000 := HS.out.1
  clear hfw
  by_cases la : a.length ≤ 400
  rotate_left
  · have d1 : decide ((400 : Int) < (a.length : Int)) = true := decide_eq_true (by omega)
    clear la
    go_wp2_with fail
    go_returns
    exact ⟨rfl, HB3.out⟩
  have d1 : decide ((400 : Int) < (a.length : Int)) = false := decide_eq_false (by omega)
  by_cases lb : b.length ≤ 400
  rotate_left
  · have d2 : decide ((400 : Int) < (b.length : Int)) = true := decide_eq_true (by omega)
    clear la lb
    go_wp2_with fail
    go_returns
    exact ⟨rfl, HB3.out⟩
  have d2 : decide ((400 : Int) < (b.length : Int)) = false := decide_eq_false (by omega)
  obtain ⟨k0, k1, k2, _, _, _⟩ := blk3 HG3.out
  go_wp2_with fail
  refine (Tell_any A m.length c m place ⟨g0, g1, g2⟩ w3 rfl (Kd.C_below HR.out HB3.out) hc HS.out).mono ?_
  rintro e w4 ⟨Ax, cx, rfl, hcx, hCx, hB⟩
  have HB4 := Aside0.mk (below_step HB3.out hB)
  have HG4 := Aside0.mk (blk_below HG3.out hB)
  have HH4 := Aside0.mk (blk_below HH3.out hB)
  have HX4 := Aside0.mk hCx
  clear hB hCx HB3 HG3 HH3 k0 k1 k2
  obtain ⟨k0, k1, k2, _, _, _⟩ := blk3 HH4.out
  go_wp2_with fail
  refine (Tell_any A m.length c m place ⟨h0, h1, h2⟩ w4 rfl (Kd.C_below HR.out HB4.out) hc HS.out).mono ?_
  rintro e w5 ⟨Ay, cy, rfl, hcy, hCy, hB⟩
  have HB5 := Aside0.mk (below_step HB4.out hB)
  have HG5 := Aside0.mk (blk_below HG4.out hB)
  have HH5 := Aside0.mk (blk_below HH4.out hB)
  have HX5 := Aside0.mk (Kd.C_below HX4.out hB)
  have HY5 := Aside0.mk hCy
  clear hB hCy HB4 HG4 HH4 HX4 k0 k1 k2
  go_upto_region 6 with fail
  obtain ⟨q, hq⟩ : ∃ q, q = (tellG m place ⟨g0, g1, g2⟩).2 := ⟨_, rfl⟩
  obtain ⟨q2, hq2⟩ : ∃ q, q = (tellG m place ⟨h0, h1, h2⟩).2 := ⟨_, rfl⟩
  rw [← hq, ← hq2]
  obtain ⟨x, hx⟩ : ∃ x, x = (tellG m place ⟨g0, g1, g2⟩).1 := ⟨_, rfl⟩
  obtain ⟨y, hy⟩ : ∃ x, x = (tellG m place ⟨h0, h1, h2⟩).1 := ⟨_, rfl⟩
  rw [← hx] at HX5 hcx ⊢
  rw [← hy] at HY5 hcy ⊢
  have HQ := Aside0.mk (And.intro (And.intro hq hx) (And.intro hq2 hy))
  clear hq hq2 hx hy
  go_cut [67] (fun u67 wx => ∃ bb : Bool, u67 = .bool bb ∧ Aside0 (bb = true → q = 0 ∧ q2 = 0) ∧ wx = w5)
  case first =>
    clear HQ HX5 HY5 hcx hcy
    by_cases e1 : q = 0
    · subst e1
      by_cases e2 : q2 = 0
      · subst e2
        go_wp2_with fail
        go_meet
        case rel => exact ⟨true, rfl, ⟨fun _ => by simp⟩, by first | rfl | trivial⟩
      · have dq : (q2 == 0) = false := by rw [beq_eq_false_iff_ne]; exact e2
        clear e2
        go_wp2_with fail
        go_meet
        case rel => exact ⟨false, by first | rfl | rw [dq], ⟨fun e => by cases e⟩, by first | rfl | trivial⟩
    · have dq : (q == 0) = false := by rw [beq_eq_false_iff_ne]; exact e1
      clear e1
      go_wp2_with fail
      go_meet
      case rel => exact ⟨false, by first | rfl | rw [dq], ⟨fun e => by cases e⟩, by first | rfl | trivial⟩
  case rest =>
  obtain ⟨bb, rfl, HBB, hw5⟩ := hcut
  rw [hw5]
  clear hw5
  go_step
  go_cut [] (fun wx => Aside0 (Below w.heap.size w wx))
  case first =>
    cases bb with
    | false =>
      clear HBB HX5 HY5 hcx hcy
      go_wp2_with fail
      go_meet
      case rel => exact HB5
    | true => as_aux_lemma =>
      obtain ⟨rfl, rfl⟩ := HBB.out rfl
      clear HBB
      obtain ⟨⟨e1, ex⟩, ⟨e2, ey⟩⟩ := HQ.out
      obtain ⟨x', y', T⟩ := told_ok e1.symm e2.symm
      rw [T.tg] at ex
      rw [T.th] at ey
      dsimp only at ex ey
      subst ex
      subst ey
      have HT := Aside0.mk T
      clear T e1 e2 HQ
      have HSX := Aside0.mk (short_ok HT.out.cx)
      have HSY := Aside0.mk (short_ok HT.out.cy)
      obtain ⟨k0, k1, k2, _, _, _⟩ := blk3 HH5.out
      go_wp2_with fail
      refine (Tell_any Ax x.length cx x place ⟨h0, h1, h2⟩ w5 rfl HX5.out hcx HSX.out).mono ?_
      rintro e w6 ⟨Au, cu, rfl, hcu, hCu, hB⟩
      have HB6 := Aside0.mk (below_step HB5.out hB)
      have HG6 := Aside0.mk (blk_below HG5.out hB)
      have HH6 := Aside0.mk (blk_below HH5.out hB)
      have HX6 := Aside0.mk (Kd.C_below HX5.out hB)
      have HY6 := Aside0.mk (Kd.C_below HY5.out hB)
      have HU6 := Aside0.mk hCu
      clear hB hCu HB5 HG5 HH5 HX5 HY5 k0 k1 k2
      obtain ⟨k0, k1, k2, _, _, _⟩ := blk3 HG6.out
      go_wp2_with fail
      refine (Tell_any Ay y.length cy y place ⟨g0, g1, g2⟩ w6 rfl HY6.out hcy HSY.out).mono ?_
      rintro e w7 ⟨Av, cv, rfl, hcv, hCv, hB⟩
      have HB7 := Aside0.mk (below_step HB6.out hB)
      have HG7 := Aside0.mk (blk_below HG6.out hB)
      have HH7 := Aside0.mk (blk_below HH6.out hB)
      have HX7 := Aside0.mk (Kd.C_below HX6.out hB)
      have HU7 := Aside0.mk (Kd.C_below HU6.out hB)
      have HV7 := Aside0.mk hCv
      clear hB hCv HB6 HG6 HH6 HX6 HY6 HU6 k0 k1 k2
      go_upto_region 9 with fail
      obtain ⟨q3, hq3⟩ : ∃ q, q = (tellG x place ⟨h0, h1, h2⟩).2 := ⟨_, rfl⟩
      obtain ⟨q4, hq4⟩ : ∃ q, q = (tellG y place ⟨g0, g1, g2⟩).2 := ⟨_, rfl⟩
      obtain ⟨U, hU⟩ : ∃ U, U = (tellG x place ⟨h0, h1, h2⟩).1 := ⟨_, rfl⟩
      obtain ⟨V, hV⟩ : ∃ V, V = (tellG y place ⟨g0, g1, g2⟩).1 := ⟨_, rfl⟩
      rw [← hU] at HU7 hcu ⊢
      rw [← hV] at HV7 hcv ⊢
      rw [← hq3, ← hq4]
      have HE : Aside0 (q3 = 0 → q4 = 0 → ((¬ g0 = h0 ∨ (g0 = h0 ∧ ¬ g2 = h2)) ∨ (g0 = h0 ∧ g2 = h2 ∧ g1 = h1)) → U = V) := ⟨fun e1 e2 q => by rw [hU, hV]; exact HT.out.uv (by rw [← hq3]; exact e1) (by rw [← hq4]; exact e2) (by dsimp only; omega)⟩
      have HSU : Aside0 (q3 = 0 → Short U) := ⟨fun e1 => by obtain ⟨i, p, t⟩ := tell_ok (show (tellG x place ⟨h0, h1, h2⟩).2 = 0 by rw [← hq3]; exact e1); rw [hU, t.res]; exact short_ok t.more⟩
      clear hq3 hq4 hU hV
      go_cut [112] (fun u112 wx => u112 = .bool false ∧ Aside0 (Below w7.heap.size w7 wx))
      case first =>
        by_cases e1 : q3 = 0
        rotate_left
        · have dq : (q3 == 0) = false := by rw [beq_eq_false_iff_ne]; exact e1
          clear e1 HU7 HV7 hcu hcv HE HSU
          go_wp2_with fail
          go_meet
          case rel => exact ⟨by first | rfl | simp [dq], ⟨Below.refl _ _⟩⟩
        by_cases e2 : q4 = 0
        rotate_left
        · subst e1
          have dq : (q4 == 0) = false := by rw [beq_eq_false_iff_ne]; exact e2
          clear e2 HU7 HV7 hcu hcv HE HSU
          go_wp2_with fail
          go_meet
          case rel => exact ⟨by first | rfl | simp [dq], ⟨Below.refl _ _⟩⟩
        subst e1
        subst e2
        replace HE := Aside0.mk (HE.out rfl rfl)
        replace HSU := Aside0.mk (HSU.out rfl)
        obtain ⟨k0, k1, k2, _, _, _⟩ := blk3 HG7.out
        obtain ⟨m0, m1, m2, _, _, _⟩ := blk3 HH7.out
        have key : (¬ g0 = h0 ∨ (g0 = h0 ∧ ¬ g2 = h2)) ∨ (g0 = h0 ∧ g2 = h2 ∧ g1 = h1) ∨ (g0 = h0 ∧ g2 = h2 ∧ ¬ g1 = h1) := by omega
        rcases key with (k | ⟨rfl, k⟩) | ⟨rfl, rfl, rfl⟩ | ⟨rfl, rfl, k⟩
        · obtain rfl := HE.out (.inl (.inl k))
          have d := show (g0 != h0) = true from bne_iff_ne.2 k
          clear HE k
          go_wp2_with fail
          refine (Same_any Au Av U.length cu U.length cv U U w7 rfl rfl HU7.out HV7.out HSU.out).mono ?_
          rintro e w8 ⟨rfl, hB⟩
          rw [sameBy_refl postE_refl]
          go_wp2_with fail
          go_meet
          case rel => exact ⟨rfl, ⟨hB⟩⟩
        · obtain rfl := HE.out (.inl (.inr ⟨rfl, k⟩))
          have d := show (g2 != h2) = true from bne_iff_ne.2 k
          clear HE k
          go_wp2_with fail
          refine (Same_any Au Av U.length cu U.length cv U U w7 rfl rfl HU7.out HV7.out HSU.out).mono ?_
          rintro e w8 ⟨rfl, hB⟩
          rw [sameBy_refl postE_refl]
          go_wp2_with fail
          go_meet
          case rel => exact ⟨rfl, ⟨hB⟩⟩
        · obtain rfl := HE.out (.inr ⟨rfl, rfl, rfl⟩)
          clear HE
          go_wp2_with fail
          refine (Same_any Au Av U.length cu U.length cv U U w7 rfl rfl HU7.out HV7.out HSU.out).mono ?_
          rintro e w8 ⟨rfl, hB⟩
          rw [sameBy_refl postE_refl]
          go_wp2_with fail
          go_meet
          case rel => exact ⟨rfl, ⟨hB⟩⟩
        · have d := show (g1 == h1) = false from beq_eq_false_iff_ne.2 k
          clear HE
          go_wp2_with fail
          go_meet
          case rel => exact ⟨by first | rfl | simp [k], ⟨Below.refl _ _⟩⟩
      case rest =>
        obtain ⟨rfl, hcut⟩ := hcut
        obtain ⟨w8, hw8⟩ : ∃ W, W = wc := ⟨_, rfl⟩
        rw [← hw8] at hcut ⊢
        have HB8 := Aside0.mk (below_step HB7.out hcut.out)
        have HG8 := Aside0.mk (blk_below HG7.out hcut.out)
        have HX8 := Aside0.mk (Kd.C_below HX7.out hcut.out)
        clear hw8 hcut HB7 HG7 HH7 HX7 HU7 HV7
        obtain ⟨k0, k1, k2, _, _, _⟩ := blk3 HG8.out
        go_wp2_with fail
        refine (Tell_any Ax x.length cx x place ⟨g0, g1, g2⟩ w8 rfl HX8.out hcx HSX.out).mono ?_
        rintro e w9 ⟨Az, cz, rfl, hcz, hCz, hB⟩
        rw [HT.out.ag] at hcz hCz ⊢
        dsimp only at hcz hCz ⊢
        have HB9 := Aside0.mk (below_step HB8.out hB)
        have HX9 := Aside0.mk (Kd.C_below HX8.out hB)
        have HZ9 := Aside0.mk hCz
        clear hB hCz k0 k1 k2
        go_wp2_with fail
        refine (Same_any Az Ax x.length cz x.length cx x x w9 rfl rfl HZ9.out HX9.out HSX.out).mono ?_
        rintro e w10 ⟨rfl, hB⟩
        rw [sameBy_refl postE_refl]
        have HB10 := Aside0.mk (below_step HB9.out hB)
        clear hB
        go_wp2_with fail
        go_meet
        case rel => exact HB10
  case rest => as_aux_lemma =>
      obtain ⟨w6, hw6⟩ : ∃ W, W = wc := ⟨_, rfl⟩
      rw [← hw6] at hcut ⊢
      have HB6 := hcut
      clear hw6 hcut HB5 HG5 HH5 HX5 HY5 hcx hcy HQ
      go_wp2_with fail
      refine (Merge_any A4 A5 a.length c4 b.length c5 a b w6 rfl rfl (Kd.C_below HA.out HB6.out) (Kd.C_below HB.out HB6.out) hca (by omega) (by omega)).mono ?_
      rintro e w7 ⟨Al, cl, rfl, hcl, hCl, hB⟩
      have HB7 := Aside0.mk (below_step HB6.out hB)
      have HL7 := Aside0.mk hCl
      clear hB hCl HB6
      go_wp2_with fail
      refine (Merge_any A5 A4 b.length c5 a.length c4 b a w7 rfl rfl (Kd.C_below HB.out HB7.out) (Kd.C_below HA.out HB7.out) hcb (by omega) (by omega)).mono ?_
      rintro e w8 ⟨Ak, ck, rfl, hck, hCk, hB⟩
      have HB8 := Aside0.mk (below_step HB7.out hB)
      have HL8 := Aside0.mk (Kd.C_below HL7.out hB)
      have HK8 := Aside0.mk hCk
      clear hB hCk HB7 HL7
      by_cases e1 : (mergeF a b).2 = 0
      rotate_left
      · rw [← mergeF_turned a b]
        obtain ⟨q, hq⟩ : ∃ q, q = (mergeF a b).2 := ⟨_, rfl⟩
        rw [← hq] at e1 ⊢
        have dq : (q != 0) = true := bne_iff_ne.2 e1
        clear hq e1 HL8 HK8 hcl hck
        go_wp2_with fail
        go_returns
        exact ⟨rfl, HB8.out⟩
      obtain ⟨l, k, M⟩ := merge_ok e1
      rw [M.ab] at HL8 hcl ⊢
      rw [M.ba] at HK8 hck ⊢
      dsimp only at HL8 HK8 hcl hck ⊢
      have hll := M.len
      have HM := Aside0.mk M
      clear M e1
      go_wp2_with fail
      go_loopw [28, 29] (fun u28 u29 wr => ∃ n : Nat, u29 = .int .i64 (n : Int) ∧ u28 = .bool (eqTime (a.take n) b) ∧ n ≤ a.length ∧ Aside0 (Below w8.heap.size w8 wr)) (fun _ u29 _ => a.length - (intOf u29).toNat)
      case atStart => exact ⟨0, rfl, rfl, Nat.zero_le _, ⟨Below.refl _ _⟩⟩
      case round =>
        obtain ⟨n, rfl, rfl, hn, HBR⟩ := hrel
        by_cases hlt : n < a.length
        · have dn : decide (n < a.length) = true := decide_eq_true hlt
          obtain ⟨ad, x, rfl, hx, _, _, _⟩ := hint_at (Kd.C_below HA.out (below_step HB8.out HBR.out)) n hlt
          have HST := Aside0.mk (eqTime_step a b hx)
          obtain ⟨q, hq⟩ : ∃ q, q = eqTime (a.take n) b := ⟨_, rfl⟩
          rw [← hq] at HST ⊢
          have HX := Aside0.mk hx
          clear hx hq
          go_wp2_with fail
          go_loopw [28, 30] (fun u28 u30 wq => ∃ o : Nat, u30 = .int .i64 (o : Int) ∧ u28 = .bool (q || eqRow x (b.take o)) ∧ o ≤ b.length ∧ Aside0 (Below wr.heap.size wr wq)) (fun _ u30 _ => b.length - (intOf u30).toNat)
          case atStart => exact ⟨0, rfl, by simp [eqRow], Nat.zero_le _, ⟨Below.refl _ _⟩⟩
          case round =>
            obtain ⟨o, rfl, rfl, ho, HBQ⟩ := hrel
            by_cases hlo : o < b.length
            rotate_left
            · have d3 : decide (o < b.length) = false := decide_eq_false hlo
              have HE : Aside0 ((q || eqRow x (b.take o)) = eqTime (a.take (n + 1)) b) := ⟨by rw [HST.out, List.take_of_length_le (by omega)]⟩
              rw [HE.out]
              go_wp2_with fail
              go_roundw
              case measure => simp [intOf]; omega
              case rel => exact ⟨n + 1, by go_num, rfl, by omega, ⟨below_step HBR.out HBQ.out⟩⟩
            have d3 : decide (o < b.length) = true := decide_eq_true hlo
            have HBT := below_step HB8.out (below_step HBR.out HBQ.out)
            obtain ⟨bd, y, rfl, hy, r0, _, r2⟩ := hint_at (Kd.C_below HB.out HBT) o hlo
            obtain ⟨ad2, x2, hade, hx2, p0, _, p2⟩ := hint_at (Kd.C_below HA.out HBT) n hlt
            obtain rfl := Option.some.inj hade
            have hxx := HX.out
            rw [hx2] at hxx
            obtain rfl := Option.some.inj hxx
            have HSO := Aside0.mk (eqRow_step x2 b hy)
            obtain ⟨s, hs⟩ : ∃ s, s = (q || eqRow x2 (b.take o)) := ⟨_, rfl⟩
            have HSS : Aside0 ((q || eqRow x2 (b.take (o + 1))) = (s || ((x2.f0 == y.f0) && (x2.f2 == y.f2)))) := ⟨by rw [HSO.out, hs, Bool.or_assoc]⟩
            rw [← hs]
            clear hs hx2 hxx hy HBT HSO
            obtain ⟨x0, hx0⟩ : ∃ v, v = x2.f0 := ⟨_, rfl⟩
            obtain ⟨xt, hxt⟩ : ∃ v, v = x2.f2 := ⟨_, rfl⟩
            obtain ⟨y0, hy0⟩ : ∃ v, v = y.f0 := ⟨_, rfl⟩
            obtain ⟨yt, hyt⟩ : ∃ v, v = y.f2 := ⟨_, rfl⟩
            rw [← hx0] at p0 HSS
            rw [← hxt] at p2 HSS
            rw [← hy0] at r0 HSS
            rw [← hyt] at r2 HSS
            have HX2 := Aside0.mk (And.intro hx0 hxt)
            clear hx0 hxt hy0 hyt
            have key : (s = true) ∨ (s = false ∧ ¬ x0 = y0) ∨ (s = false ∧ x0 = y0 ∧ ¬ xt = yt) ∨ (s = false ∧ x0 = y0 ∧ xt = yt) := by
              cases s
              · right
                by_cases k : x0 = y0
                · by_cases k2 : xt = yt
                  · exact .inr (.inr ⟨rfl, k, k2⟩)
                  · exact .inr (.inl ⟨rfl, k, k2⟩)
                · exact .inl ⟨rfl, k⟩
              · exact .inl rfl
            rcases key with rfl | ⟨rfl, k⟩ | ⟨rfl, rfl, k⟩ | ⟨rfl, rfl, rfl⟩
            · have HV : Aside0 ((q || eqRow x2 (b.take (o + 1))) = true) := ⟨by rw [HSS.out]; rfl⟩
              clear HSS HX2
              go_upto_region 25 with fail
              go_region
              all_goals
                go_wp2_with fail
                go_roundw
                case measure => simp [intOf]; omega
                case rel => exact ⟨o + 1, by go_num, by rw [HV.out], by omega, ⟨by repeat (first | exact HBQ.out | refine below_drew ?_)⟩⟩
            · have HV : Aside0 ((q || eqRow x2 (b.take (o + 1))) = false) := ⟨by rw [HSS.out, show (x0 == y0) = false from beq_eq_false_iff_ne.2 k]; rfl⟩
              have d4 : (x0 == y0) = false := beq_eq_false_iff_ne.2 k
              clear HSS HX2 k
              go_upto_region 25 with fail
              go_region
              all_goals
                go_wp2_with fail
                go_roundw
                case measure => simp [intOf]; omega
                case rel => exact ⟨o + 1, by go_num, by rw [HV.out], by omega, ⟨by repeat (first | exact HBQ.out | refine below_drew ?_)⟩⟩
            · have HV : Aside0 ((q || eqRow x2 (b.take (o + 1))) = false) := ⟨by rw [HSS.out, show (xt == yt) = false from beq_eq_false_iff_ne.2 k]; simp⟩
              have d4 : (xt == yt) = false := beq_eq_false_iff_ne.2 k
              clear HSS HX2 k
              go_upto_region 25 with fail
              go_region
              all_goals
                go_wp2_with fail
                go_roundw
                case measure => simp [intOf]; omega
                case rel => exact ⟨o + 1, by go_num, by rw [HV.out], by omega, ⟨by repeat (first | exact HBQ.out | refine below_drew ?_)⟩⟩
            · have HV : Aside0 ((q || eqRow x2 (b.take (o + 1))) = true) := ⟨by rw [HSS.out]; simp⟩
              clear HSS HX2
              go_upto_region 25 with fail
              go_region
              all_goals
                go_wp2_with fail
                go_roundw
                case measure => simp [intOf]; omega
                case rel => exact ⟨o + 1, by go_num, by rw [HV.out], by omega, ⟨by repeat (first | exact HBQ.out | refine below_drew ?_)⟩⟩
        · have dn : decide (n < a.length) = false := decide_eq_false hlt
          have HE : Aside0 (eqTime (a.take n) b = eqTime a b) := ⟨by rw [List.take_of_length_le (by omega)]⟩
          rw [HE.out]
          obtain ⟨q, hq⟩ : ∃ q, q = eqTime a b := ⟨_, rfl⟩
          have HQ : Aside0 (q = true ∨ l = k) := ⟨by rw [hq]; exact HM.out.eq⟩
          rw [← hq]
          have HBS := Aside0.mk (below_step HB8.out HBR.out)
          have HLS := Aside0.mk (Kd.C_below HL8.out HBR.out)
          have HKS := Aside0.mk (Kd.C_below HK8.out HBR.out)
          clear hq HE HL8 HK8
          go_wp2_with fail
          refine (Merge_any Al A5 l.length cl b.length c5 l b wr rfl rfl HLS.out (Kd.C_below HB.out HBS.out) hcl (by omega) (by omega)).mono ?_
          rintro e w9 ⟨Az, cz, rfl, hcz, hCz, hB⟩
          rw [HM.out.again] at hcz hCz ⊢
          dsimp only at hcz hCz ⊢
          have HB9 := Aside0.mk (below_step HBS.out hB)
          have HL9 := Aside0.mk (Kd.C_below HLS.out hB)
          have HK9 := Aside0.mk (Kd.C_below HKS.out hB)
          have HZ9 := Aside0.mk hCz
          clear hB hCz HBS HLS HKS
          go_wp2_with fail
          refine (SameHints_any Az Al l.length cz l.length cl l l w9 rfl rfl HZ9.out HL9.out (by omega)).mono ?_
          rintro e w10 ⟨rfl, hB⟩
          rw [sameBy_refl hintE_refl]
          have HB10 := Aside0.mk (below_step HB9.out hB)
          have HL10 := Aside0.mk (Kd.C_below HL9.out hB)
          have HK10 := Aside0.mk (Kd.C_below HK9.out hB)
          clear hB HB9 HL9 HK9 HZ9
          cases q with
          | true =>
            go_wp2_with fail
            go_returns
            exact ⟨rfl, HB10.out⟩
          | false =>
            obtain rfl := HQ.out.resolve_left (by simp)
            go_wp2_with fail
            refine (SameHints_any Al Ak l.length cl l.length ck l l w10 rfl rfl HL10.out HK10.out (by omega)).mono ?_
            rintro e w11 ⟨rfl, hB⟩
            rw [sameBy_refl hintE_refl]
            have HB11 := Aside0.mk (below_step HB10.out hB)
            clear hB
            go_wp2_with fail
            go_returns
            exact ⟨rfl, HB11.out⟩
end Go.Proofs.Ytjnceoohlcchnaa.Print

/-! A hint, a row of hints, or of triples, handed in. -/
namespace Go.Proofs.Ytjnceoohlcchnaa.Print
open Go Go.ChangeShapes Go.WideShapes Go.ChangeAt Go.RowKit Go.Deep Go.Proofs.YtjnceoohlcchnaaW.PrintWords Go.Proofs.YtjnceoohlcchnaaW.PrintLast Go.Proofs.YtjnceoohlcchnaaW.PrintMore
section
variable {H : Type} {enc : TypeId × Value → H} {W : World} {held : Bool}
set_option maxRecDepth 100000 in
theorem lift_hint {v : Value} {base : Nat} {d : DataW H} {ps : List MemPlace} (ho : Value.okWide Try.prog W .any base 31 v) (h : DataW.Trod enc Try.prog W 0 (fun _ => true) held 31 v d ps) : ∃ x : S31, v = .agg #[.int .i64 x.f0, .int .i64 x.f1, .int .i64 x.f2] := by
  obtain ⟨cs, rfl, hs⟩ := okWide_struct Try.underlying31 ho
  obtain ⟨fuel, hf⟩ := h
  rw [show Try.prog.cellsOf 31 = 3 from by kernel_rfl] at hs
  obtain ⟨cs⟩ := cs
  match cs, hs with
  | [v0, v1, v2], _ =>
    obtain ⟨y0, y1, y2, n, _, _, g0, g1, g2⟩ := trod_struct3 Try.underlying31 (show DataW.trod enc Try.prog W 0 (fun _ => true) held fuel 31 [v0, v1, v2] = some (d, ps) from by simpa [Value.cells] using hf)
    rw [show Try.prog.cellsOf 3 = 1 from by kernel_rfl] at g0 g1 g2
    simp at g0 g1 g2
    obtain ⟨z0, e0, _, _⟩ := DataW.trod_int Try.underlying3 g0
    obtain ⟨z1, e1, _, _⟩ := DataW.trod_int Try.underlying3 g1
    obtain ⟨z2, e2, _, _⟩ := DataW.trod_int Try.underlying3 g2
    simp at e0 e1 e2
    subst e0 e1 e2
    exact ⟨⟨z0, z1, z2⟩, rfl⟩
theorem lift_hintsT {a : Option Addr} {len cap : Nat} {d : DataW H} {ps : List MemPlace} (h : DataW.Trod enc Try.prog W 0 (fun _ => true) held 34 (.slice a len cap) d ps) (hz : ∀ n ∈ d.weights Try.prog 34, n ≤ reachBytes) :
    ∃ l : List S31, l.length = len ∧ len ≤ cap ∧ Kd.C k31 W a len l ∧ len ≤ 140737488355328 := by
  obtain ⟨fuel, hf⟩ := h
  exact lift_hints (fuel := fuel) (d := d) (ps := ps) (by simpa [Value.cells] using hf) hz
set_option maxRecDepth 100000 in
theorem lift_trips {a : Option Addr} {len cap : Nat} {d : DataW H} {ps : List MemPlace} (h : DataW.Trod enc Try.prog W 0 (fun _ => true) held 55 (.slice a len cap) d ps) :
    ∃ l : List S31, l.length = len ∧ len ≤ cap ∧ Kd.C k31 W a len l := by
  obtain ⟨fuel, hf⟩ := h
  rcases open_slice Try.underlying55 hf with ⟨hcs, _⟩ | ⟨x, l', c', m, n, D, Pl, hcs, _, hl, hm, hmm, hx, hcell⟩
  · simp [Value.cells] at hcs
    obtain ⟨rfl, rfl, rfl⟩ := hcs
    exact ⟨[], rfl, Nat.le_refl _, Kd.C_nil _ _⟩
  · simp [Value.cells] at hcs
    obtain ⟨rfl, rfl, rfl⟩ := hcs
    simp only [if_true] at hmm
    subst hmm
    rw [show Try.prog.cellsOf 59 = 3 from by kernel_rfl] at hcell
    have each : ∀ i, i < len → ∃ y : S31, W.cell? (x.add (i * 3)) = some (.int .i64 y.f0) ∧ W.cell? (x.add (i * 3 + 1)) = some (.int .i64 y.f1) ∧ W.cell? (x.add (i * 3 + 2)) = some (.int .i64 y.f2) := by
      intro i hi
      obtain ⟨cs', h1, h2⟩ := hcell i (by omega)
      obtain ⟨_, hlen, hc⟩ := World.cells?_some h1
      cases n with
      | zero => simp [DataW.trod] at h2
      | succ n =>
        simp only [DataW.trod, Try.underlying59] at h2
        split at h2
        · obtain ⟨xs, hmm, hx⟩ := Option.map_eq_some_iff.1 h2
          obtain ⟨b0, _, f0⟩ := Lib.mapM_at hmm 0 0 rfl
          obtain ⟨b1, _, f1⟩ := Lib.mapM_at hmm 1 1 rfl
          obtain ⟨b2, _, f2⟩ := Lib.mapM_at hmm 2 2 rfl
          rw [show Try.prog.cellsOf 3 = 1 from by kernel_rfl] at f0 f1 f2
          match cs', hlen with
          | [v0, v1, v2], _ =>
            obtain ⟨z0, e0, _⟩ := DataW.trod_int Try.underlying3 f0
            obtain ⟨z1, e1, _⟩ := DataW.trod_int Try.underlying3 f1
            obtain ⟨z2, e2, _⟩ := DataW.trod_int Try.underlying3 f2
            have g0 := hc 0 (by simp)
            have g1 := hc 1 (by simp)
            have g2 := hc 2 (by simp)
            rw [Go.Deep.add_add] at g0 g1 g2
            simp at e0 e1 e2 g0 g1 g2
            exact ⟨⟨z0, z1, z2⟩, by rw [← e0]; exact g0, by rw [← e1]; exact g1, by rw [← e2]; exact g2⟩
        · cases h2
    haveI : Inhabited S31 := ⟨⟨0, 0, 0⟩⟩
    obtain ⟨y, hy⟩ := choose_lt each
    refine ⟨(List.range len).map y, by simp, hl, ⟨by simp, by unfold maxLen at hm; omega, fun _ => ⟨x, rfl, fun j p hj => ?_⟩⟩⟩
    rw [List.getElem?_map] at hj
    obtain ⟨i, hi, rfl⟩ := Option.map_eq_some_iff.1 hj
    obtain ⟨hjl, hji⟩ := List.getElem?_eq_some_iff.1 hi
    simp at hjl hji
    subst hji
    obtain ⟨e0, e1, e2⟩ := hy j hjl
    refine ⟨_, rfl, k31_mk W (y j), fun i u hu => ?_⟩
    match i, hu with
    | 0, hu => cases hu; exact e0
    | 1, hu => cases hu; exact e1
    | 2, hu => cases hu; exact e2
end
end Go.Proofs.Ytjnceoohlcchnaa.Print

namespace Go.Proofs.Ytjnceoohlcchnaa.findTold
open Go Go.ChangeShapes Go.WideShapes Go.ChangeAt Go.RowKit Go.Proofs.Ytjnceoohlcchnaa.Print
open Go.Proofs.YtjnceoohlcchnaaW.PrintWords
theorem own : ownKnob Try.prog.godebug = none := by kernel_rfl
theorem laidOut : laidOutB Try.prog = true := by kernel_rfl

theorem small {H : Type} {ts : List TypeId} {ds : List (DataW H)} (hsz : (DataW.weightsEach Try.prog ts ds).all (· ≤ reachBytes) = true) {j : Nat} {t : TypeId} {d : DataW H} (ht : ts[j]? = some t) (hd : ds[j]? = some d) : ∀ n ∈ d.weights Try.prog t, n ≤ reachBytes := by
  intro n hn
  have := List.all_eq_true.1 hsz _ (DataW.weights_mem_each ht hd n hn)
  simpa using this


set_option maxRecDepth 100000 in
theorem lifted (os : Os) (started : os.Started) (H : Type) (enc : TypeId × Value → H) :
    ReturnsInHanded {} Try.checked os 10 .any (Rows.findToldSpec.pre6 enc Try.prog Try.f10 Rows.findToldRow.domain false) (Rows.findToldSpec.post enc Try.prog Try.f10 false true false false) := by
  refine returnsInHanded_of_change_sized (C := Try.checked) own started (by kernel_rfl) Try.func10
    (ChangeSpec.witness6 (enc := enc) (C := Try.checked) false ⟨#[], #[.slice none 0 0, .int .i64 0, .agg #[.int .i64 0, .int .i64 0, .int .i64 0], .agg #[.int .i64 0, .int .i64 0, .int .i64 0], .slice none 0 0, .slice none 0 0], []⟩ 8 (by kernel_rfl) (by kernel_rfl) (by kernel_rfl) (by kernel_rfl)) ?_
  intro W base args ds gs before hval0 hW hcnd hsz0 _
  have hsz : (DataW.weightsEach Try.prog (Try.f10.params.toList ++ Rows.findToldSpec.plain.varTypes Try.prog) (ds ++ gs)).all (· ≤ reachBytes) = true := hsz0
  have hval : ∀ (j : Nat) t v, Try.f10.params[j]? = some t → args[j]? = some v → Value.okWide Try.prog W .any base t v := hval0
  have hW' := hW
  obtain ⟨p, q, hA0, hV, rfl, hfz, hnd⟩ := hW
  have hA : DataW.TrodAll enc Try.prog W 0 (fun _ => true) true Try.f10.params.toList args.toList ds p := hA0
  rw [Try.params10] at hA hval hsz
  obtain ⟨v0, vs0, d0, ds0, p0, q0, hargs, rfl, rfl, h0, r0⟩ := trodAll_cons hA
  obtain ⟨v1, vs1, d1, ds1, p1, q1, rfl, rfl, rfl, h1, r1⟩ := trodAll_cons r0
  obtain ⟨v2, vs2, d2, ds2, p2, q2, rfl, rfl, rfl, h2, r2⟩ := trodAll_cons r1
  obtain ⟨v3, vs3, d3, ds3, p3, q3, rfl, rfl, rfl, h3, r3⟩ := trodAll_cons r2
  obtain ⟨v4, vs4, d4, ds4, p4, q4, rfl, rfl, rfl, h4, r4⟩ := trodAll_cons r3
  obtain ⟨v5, vs5, d5, ds5, p5, q5, rfl, rfl, rfl, h5, r5⟩ := trodAll_cons r4
  obtain ⟨rfl, rfl, rfl⟩ := trodAll_nil r5
  obtain rfl : args = #[v0, v1, v2, v3, v4, v5] := by cases args; simp_all
  obtain ⟨rfl, rfl⟩ := trodVars_none hV
  obtain ⟨a0, len0, cap0, rfl⟩ := okWide_slice Try.underlying22 (hval 0 22 v0 rfl rfl)
  obtain ⟨a1, rfl, rfl, rfl, w1⟩ := open_int Try.underlying3 (hval 1 3 v1 rfl rfl) h1
  obtain ⟨x2, rfl⟩ := lift_hint (hval 2 31 v2 rfl rfl) h2
  obtain ⟨x3, rfl⟩ := lift_hint (hval 3 31 v3 rfl rfl) h3
  obtain ⟨a4, len4, cap4, rfl⟩ := okWide_slice Try.underlying34 (hval 4 34 v4 rfl rfl)
  obtain ⟨a5, len5, cap5, rfl⟩ := okWide_slice Try.underlying34 (hval 5 34 v5 rfl rfl)
  have k0 := h0
  have lt0 : ∀ x ∈ p0, x.block < W.heap.size := by obtain ⟨m, hm⟩ := k0; exact DataW.trod_lt m _ _ _ hm
  have k2 := h2
  have lt2 : ∀ x ∈ p2, x.block < W.heap.size := by obtain ⟨m, hm⟩ := k2; exact DataW.trod_lt m _ _ _ hm
  have k3 := h3
  have lt3 : ∀ x ∈ p3, x.block < W.heap.size := by obtain ⟨m, hm⟩ := k3; exact DataW.trod_lt m _ _ _ hm
  have k4 := h4
  have lt4 : ∀ x ∈ p4, x.block < W.heap.size := by obtain ⟨m, hm⟩ := k4; exact DataW.trod_lt m _ _ _ hm
  have k5 := h5
  have lt5 : ∀ x ∈ p5, x.block < W.heap.size := by obtain ⟨m, hm⟩ := k5; exact DataW.trod_lt m _ _ _ hm
  obtain ⟨l0, e0, hc0, hr0, hz0, hw0⟩ := lift_posts h0 (small hsz (j := 0) rfl rfl)
  subst e0
  obtain ⟨l4, e4, hc4, hr4, hz4⟩ := lift_hintsT h4 (small hsz (j := 4) rfl rfl)
  subst e4
  obtain ⟨l5, e5, hc5, hr5, hz5⟩ := lift_hintsT h5 (small hsz (j := 5) rfl rfl)
  subst e5
  clear hA0 hval0 hsz0 hsz
  refine (told_walk a0 cap0 l0 a1 x2 x3 a4 cap4 l4 a5 cap5 l5 W hr0 hc0 hr4 hc4 hr5 hc5 hw0    ).mono fun e W' ⟨he, bel⟩ => ?_
  subst he
  exact ⟨_, rfl, _, _, _, [], _, [], hW', trodAll_mk1 (shut_bool Try.underlying4 _), (trodAll_cons_mk (Below.trod laidOut (by kernel_rfl) (of_decide_eq_true (by kernel_rfl)) k0 bel lt0) (trodAll_cons_mk (shut_int Try.underlying3 w1) (trodAll_cons_mk (Below.trod laidOut (by kernel_rfl) (of_decide_eq_true (by kernel_rfl)) k2 bel lt2) (trodAll_cons_mk (Below.trod laidOut (by kernel_rfl) (of_decide_eq_true (by kernel_rfl)) k3 bel lt3) (trodAll_cons_mk (Below.trod laidOut (by kernel_rfl) (of_decide_eq_true (by kernel_rfl)) k4 bel lt4) (trodAll_cons_mk (Below.trod laidOut (by kernel_rfl) (of_decide_eq_true (by kernel_rfl)) k5 bel lt5) trodAll_mk0)))))), rfl, bel.frame _, fun h => by cases h⟩
theorem over : Rows.findToldRow.holds Try.pinned (OpenSpec.ofChange Rows.findToldSpec) :=
  OpenClaim.holds_of_wide 10 Try.f10 rfl rfl rfl rfl rfl rfl rfl ⟨rfl, rfl, rfl, rfl, rfl⟩ rfl rfl rfl rfl rfl (by kernel_rfl) Try.func10 (by kernel_rfl)
    (of_decide_eq_true (by kernel_rfl)) (by unfold Func.isWrapper; first | (rw [if_pos (by decide +kernel)]; kernel_rfl) | (rw [if_neg (by decide +kernel)]; exact ⟨rfl, rfl⟩))
    (fun os started H enc _ => lifted os started H enc)
theorem proved : Rows.FindToldSaid := over
#print axioms proved
end Go.Proofs.Ytjnceoohlcchnaa.findTold
namespace Go.Proofs.Ytjnceoohlcchnaa
/-- The row, under a short name, for the claim. -/
theorem findTold_holds : Rows.FindToldSaid := findTold.proved
end Go.Proofs.Ytjnceoohlcchnaa
