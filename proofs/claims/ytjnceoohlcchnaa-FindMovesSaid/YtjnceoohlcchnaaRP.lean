/- The reference's moving and telling: contracts, whatever the input. -/
import Derived.Test.YtjnceoohlcchnaaRO
import Derived.Test.YtjnceoohlcchnaaRE
import Derived.Test.YtjnceoohlcchnaaRH
import Derived.Test.YtjnceoohlcchnaaRJ
set_option linter.unusedVariables false
set_option linter.unusedSimpArgs false
/-! The reference: moving. -/
namespace Go.Proofs.Ytjnceoohlcchnaa.Print
open Go Go.RowKit Go.Deep Go.Proofs.YtjnceoohlcchnaaW.PrintWords Go.Proofs.YtjnceoohlcchnaaW.PrintLast Go.Proofs.YtjnceoohlcchnaaW.PrintMore

set_option maxRecDepth 100000 in
set_option maxHeartbeats 8000000 in
theorem rmove_any (A : Option Addr) (n c : Nat) (l : List S36) (oid place : Int) (w : World) (hn : n = l.length) (hr : Kd.C k36 w A l.length l) (hc : n ≤ c) (hl : Short l) :
    Calls Try.prog 26 #[.slice A n c, .int .i64 oid, .int .i64 place] w fun e w' => ∃ A2 c2, e = .returned (.tuple #[.slice A2 (moveF l oid place).1.length c2, .int .i64 (moveF l oid place).2]) ∧ (moveF l oid place).1.length ≤ c2 ∧ Kd.C k36 w' A2 (moveF l oid place).1.length (moveF l oid place).1 ∧ Below w.heap.size w w' := by
  subst hn
  have HR := Aside0.mk hr
  have HS := Aside0.mk hl
  have hl6 := hl.1
  clear hr hl
  go_enter Try.func26, Try.ntmps26
  go_wp2_with fail
  refine (rasked_any A l.length c l place oid w rfl HR.out hc HS.out).mono ?_
  rintro e w2 ⟨rfl, hB⟩
  have HB2 := Aside0.mk hB
  clear hB
  obtain ⟨ok, hok⟩ : ∃ ok, ok = decide (1 ≤ oid) := ⟨_, rfl⟩
  rw [← hok]
  by_cases hgc : givenC l ok [place] = 0
  rotate_left
  · have HV : Aside0 (moveF l oid place = ([], givenC l ok [place])) := ⟨by unfold moveF; rw [← hok, if_neg hgc]⟩
    obtain ⟨gc, hgc2⟩ : ∃ gc, gc = givenC l ok [place] := ⟨_, rfl⟩
    rw [← hgc2] at hgc HV ⊢
    have dg : (gc != 0) = true := by rw [bne_iff_ne]; exact hgc
    clear hgc hgc2 hok
    go_wp2_with fail
    go_returns
    exact ⟨none, 0, by rw [HV.out]; rfl, by rw [HV.out]; exact Nat.le_refl _, by rw [HV.out]; exact Kd.C_nil _ _, HB2.out⟩
  obtain ⟨b, hpb, hbl, hy⟩ := given_post hgc
  have hvat := check_vat (given_in hgc).2.1
  have HVT := Aside0.mk hvat
  have HV : Aside0 (moveF l oid place = if (whereL l oid).2 = true then (if (!(postA l place).f0 || (whereL l oid).1.f1 == place) = true then ([], 1) else if (decide (1099511627776 ≤ (whereL l oid).1.f2) || decide (4000 ≤ (postA l place).f1.length) || decide (4000 ≤ (postA l (whereL l oid).1.f1).f2.length)) = true then ([], 2) else (moveL l (whereL l oid).1.f1.toNat place.toNat oid ⟨oid, place, (whereL l oid).1.f2 + 1⟩ (postA l (whereL l oid).1.f1) (postA l place), 0)) else ([], 3)) := ⟨by unfold moveF; rw [← hok, if_pos hgc]⟩
  have HCS := Aside0.mk (rhome_cases hvat oid)
  obtain ⟨y, hye⟩ : ∃ y, y = postA l place := ⟨_, rfl⟩
  rw [← hye] at hy HV
  subst hpb
  have HY := Aside0.mk hy
  rw [hgc]
  clear hgc hok hy hye hvat
  go_wp2_with fail
  refine (rhome_any A l.length c l oid w2 rfl (Kd.C_below HR.out HB2.out) hc HS.out).mono ?_
  rintro e w3 ⟨rfl, hB⟩
  have HB3 := Aside0.mk (below_step HB2.out hB)
  clear hB HB2
  rcases HCS.out with ⟨e1, e2⟩ | ⟨a, x, q, h, e1, hal, hx, e3, hq, hg, e4⟩
  · rw [e1]
    have HV2 : Aside0 (moveF l oid b = ([], 3)) := ⟨by rw [HV.out, e2]; rfl⟩
    clear e1 e2 HCS HV
    go_wp2_with fail
    go_returns
    exact ⟨none, 0, by rw [HV2.out]; rfl, by rw [HV2.out]; exact Nat.le_refl _, by rw [HV2.out]; exact Kd.C_nil _ _, HB3.out⟩
  rw [e1]
  have hha : h.f1 = (a : Int) := HVT.out.here a h ⟨x, hx, List.mem_of_getElem? hg⟩
  have hhv := has_hintV HVT.out (show HasAt l a h from ⟨x, hx, List.mem_of_getElem? hg⟩)
  have HV2 : Aside0 (moveF l oid b = if (!y.f0 || (a : Int) == (b : Int)) = true then ([], 1) else if (decide (1099511627776 ≤ h.f2) || decide (4000 ≤ y.f1.length) || decide (4000 ≤ x.f2.length)) = true then ([], 2) else (moveL l a b oid ⟨oid, b, h.f2 + 1⟩ x y, 0)) := ⟨by rw [HV.out, e4, if_pos rfl, hha, postA_some hx, Int.toNat_natCast, Int.toNat_natCast]⟩
  have HH0 : Aside0 (h.f0 = oid ∧ 0 ≤ h.f2) := ⟨by
    have hw : whereL l h.f0 = (h, true) := has_where HVT.out ⟨x, hx, List.mem_of_getElem? hg⟩
    have h2 := where_has (show (whereL l oid).2 = true by rw [e4])
    rw [e4] at h2
    exact ⟨h2.1, hhv.t0⟩⟩
  have HX := Aside0.mk hx
  have HG := Aside0.mk hg
  have HAT := Aside0.mk e3
  clear e1 e3 e4 hx hg hha hhv HCS HV
  have a0 : (0 : Int) ≤ (a : Int) := by omega
  have a1 : (a : Int) < (l.length : Int) := by omega
  have b0 : (0 : Int) ≤ (b : Int) := by omega
  have b1 : (b : Int) < (l.length : Int) := by omega
  have j0 : (0 : Int) ≤ (q : Int) := by omega
  have j1 : (q : Int) < (x.f1.length : Int) := by omega
  have dlt : decide ((a : Int) < 0) = false := decide_eq_false (by omega)
  obtain ⟨ad, x2, A1, c1, A2, c2, rfl, hx2, p0, p1, p2, l1, g1, l2, g2⟩ := post_at HR.out a hal
  rw [HX.out] at hx2
  obtain rfl := Option.some.inj hx2
  obtain ⟨ad2, y2, B1, d1, B2, d2, hade, hy2, r0, r1, r2, m1, k1, m2, k2⟩ := post_at HR.out b hbl
  obtain rfl := Option.some.inj hade
  rw [HY.out] at hy2
  obtain rfl := Option.some.inj hy2
  obtain ⟨bd, h', rfl, hg2, s0, s1, s2⟩ := hint_at g1 q hq
  rw [HG.out] at hg2
  obtain rfl := Option.some.inj hg2
  have G1 := Aside0.mk g1
  have hsx := HS.out.2 x (List.mem_of_getElem? HX.out)
  have hsx1 := hsx.1
  obtain ⟨u, hu⟩ : ∃ u, u = y.f0 := ⟨_, rfl⟩
  rw [← hu] at r0 HV2
  have HSB : Aside0 (∀ w', Below w.heap.size w w' → (w'.cell? ⟨(ad.add (a * 3)).block, (ad.add (a * 3)).off + 1, none⟩ = some (.slice (some bd) x.f1.length c1) ∧ w'.cell? (bd.add (q * 3)) = some (.int .i64 h.f0) ∧ w'.cell? ⟨(bd.add (q * 3)).block, (bd.add (q * 3)).off + 1, none⟩ = some (.int .i64 h.f1) ∧ w'.cell? ⟨(bd.add (q * 3)).block, (bd.add (q * 3)).off + 2, none⟩ = some (.int .i64 h.f2))) := ⟨fun w' hb => ⟨cell_below hb p1, cell_below hb s0, cell_below hb s1, cell_below hb s2⟩⟩
  have HSP : Aside0 (∀ w', Below w.heap.size w w' → (w'.cell? (ad.add (b * 3)) = some (.bool u) ∧ w'.cell? ⟨(ad.add (b * 3)).block, (ad.add (b * 3)).off + 1, none⟩ = some (.slice B1 y.f1.length d1) ∧ w'.cell? ⟨(ad.add (a * 3)).block, (ad.add (a * 3)).off + 2, none⟩ = some (.slice A2 x.f2.length c2))) := ⟨fun w' hb => ⟨cell_below hb r0, cell_below hb r1, cell_below hb p2⟩⟩
  clear hx2 hy2 hg2 g1 g2 k1 k2 hsx hu p0 p1 p2 r0 r1 r2 s0 s1 s2 l2 m1 m2
  obtain ⟨t0, t1, t2⟩ := HSP.out _ HB3.out
  cases u with
  | false =>
    have HV3 : Aside0 (moveF l oid b = ([], 1)) := ⟨by rw [HV2.out]; simp⟩
    clear HV2
    go_wp2_with fail
    go_returns
    exact ⟨none, 0, by rw [HV3.out]; rfl, by rw [HV3.out]; exact Nat.le_refl _, by rw [HV3.out]; exact Kd.C_nil _ _, HB3.out⟩
  | true =>
  by_cases hab : a = b
  · have HV3 : Aside0 (moveF l oid b = ([], 1)) := ⟨by rw [HV2.out, hab]; simp⟩
    have dab : ((a : Int) == (b : Int)) = true := by rw [hab]; simp
    clear HV2 hab
    go_wp2_with fail
    go_returns
    exact ⟨none, 0, by rw [HV3.out]; rfl, by rw [HV3.out]; exact Nat.le_refl _, by rw [HV3.out]; exact Kd.C_nil _ _, HB3.out⟩
  have dab : ((a : Int) == (b : Int)) = false := beq_eq_false_iff_ne.2 (by omega)
  have HAB := Aside0.mk hab
  have HV3 : Aside0 (moveF l oid b = if (decide (1099511627776 ≤ h.f2) || decide (4000 ≤ y.f1.length) || decide (4000 ≤ x.f2.length)) = true then ([], 2) else (moveL l a b oid ⟨oid, b, h.f2 + 1⟩ x y, 0)) := ⟨by rw [HV2.out, dab]; simp⟩
  clear HV2 hab
  go_upto_region 9 with fail
  clear t0 t1 t2
  go_cut [10] (fun u10 wx => ∃ gh, u10 = .pointer (some ⟨gh, 0, none⟩) ∧ Aside0 (w.heap.size ≤ gh) ∧ Aside0 (wx.heap[gh]? = some (.cells #[.int .i64 h.f0, .int .i64 h.f1, .int .i64 h.f2] 31 (0, 0))) ∧ Aside0 (Below w.heap.size w wx))
  case first =>
    have HZ := Aside0.mk HB3.out.size
    go_region_held3 (fun w' => w'.cell? ⟨(ad.add (a * 3)).block, (ad.add (a * 3)).off + 1, none⟩ = some (.slice (some bd) x.f1.length c1) ∧ w'.cell? (bd.add (q * 3)) = some (.int .i64 h.f0) ∧ w'.cell? ⟨(bd.add (q * 3)).block, (bd.add (q * 3)).off + 1, none⟩ = some (.int .i64 h.f1) ∧ w'.cell? ⟨(bd.add (q * 3)).block, (bd.add (q * 3)).off + 2, none⟩ = some (.int .i64 h.f2)) (exact HSB.out _ (by repeat (first | exact HB3.out | exact HB6.out | exact HBQ.out | refine below_drew ?_ | refine below_alloc ?_ _ | refine below_set ?_ (by first | exact HZ.out | exact HB6.out.size)))) (first | (go_at_call 73; refine (rat_any (some bd) x.f1.length c1 x.f1 oid _ rfl (Kd.C_below G1.out (by repeat (first | exact HB3.out | refine below_drew ?_ | refine below_alloc ?_ _))) l1 hsx1).mono ?_; rintro e w6 ⟨rfl, hB⟩; rw [HAT.out]; have HB6 : Aside0 (Below w.heap.size w w6) := ⟨below_step (by repeat (first | exact HB3.out | refine below_drew ?_ | refine below_alloc ?_ _)) hB⟩; (try (have HN : Aside0 (w6.heap[w3.heap.size]? = some (.cells #[.int .i64 0, .int .i64 0, .int .i64 0] 31 (0, 0))) := ⟨blk_below (heap_alloc_new w3.drew _) hB⟩; obtain ⟨n0, n1, n2, z0, z1, z2⟩ := blk3 HN.out)); clear hB) | fail)
    all_goals
      go_wp2_with fail
      go_meet
      case rel => exact ⟨_, rfl, ⟨by first | exact HZ.out | exact HB6.out.size⟩, ⟨by first | exact blk_store3 HN.out _ _ _ | exact heap_alloc_new _ _⟩, ⟨by first | exact below_alloc HB6.out _ | exact below_store3 HB6.out HZ.out _ _ _⟩⟩
  case rest =>
  obtain ⟨gh, rfl, HGH, HQ, HBC⟩ := hcut
  obtain ⟨w4, hw4⟩ : ∃ W, W = wc := ⟨_, rfl⟩
  rw [← hw4] at HQ HBC ⊢
  obtain ⟨h0, h1, t⟩ := h
  obtain ⟨hh0, ht0⟩ := HH0.out
  dsimp only at hh0 ht0 HQ HV3
  subst hh0
  clear hw4 HB3 HSB HH0 HG HAT
  obtain ⟨n0, n1, n2, m0, m1, m2⟩ := blk3 HQ.out
  obtain ⟨t0, t1, t2⟩ := HSP.out _ HBC.out
  by_cases g1 : 1099511627776 ≤ t
  · have HV4 : Aside0 (moveF l h0 b = ([], 2)) := ⟨by rw [HV3.out, decide_eq_true g1]; rfl⟩
    have dg1 : decide ((1099511627776 : Int) ≤ t) = true := decide_eq_true g1
    clear HV3
    go_wp2_with fail
    go_returns
    exact ⟨none, 0, by rw [HV4.out]; rfl, by rw [HV4.out]; exact Nat.le_refl _, by rw [HV4.out]; exact Kd.C_nil _ _, HBC.out⟩
  have dg1 : decide ((1099511627776 : Int) ≤ t) = false := decide_eq_false g1
  by_cases g2 : 4000 ≤ y.f1.length
  · have HV4 : Aside0 (moveF l h0 b = ([], 2)) := ⟨by rw [HV3.out, decide_eq_true g2]; simp⟩
    have dg2 : decide ((4000 : Int) ≤ (y.f1.length : Int)) = true := decide_eq_true (by omega)
    clear HV3
    go_wp2_with fail
    go_returns
    exact ⟨none, 0, by rw [HV4.out]; rfl, by rw [HV4.out]; exact Nat.le_refl _, by rw [HV4.out]; exact Kd.C_nil _ _, HBC.out⟩
  have dg2 : decide ((4000 : Int) ≤ (y.f1.length : Int)) = false := decide_eq_false (by omega)
  by_cases g3 : 4000 ≤ x.f2.length
  · have HV4 : Aside0 (moveF l h0 b = ([], 2)) := ⟨by rw [HV3.out, decide_eq_true g3]; simp⟩
    have dg3 : decide ((4000 : Int) ≤ (x.f2.length : Int)) = true := decide_eq_true (by omega)
    clear HV3
    go_wp2_with fail
    go_returns
    exact ⟨none, 0, by rw [HV4.out]; rfl, by rw [HV4.out]; exact Nat.le_refl _, by rw [HV4.out]; exact Kd.C_nil _ _, HBC.out⟩
  have dg3 : decide ((4000 : Int) ≤ (x.f2.length : Int)) = false := decide_eq_false (by omega)
  have HV4 : Aside0 (moveF l h0 b = (moveL l a b h0 ⟨h0, b, t + 1⟩ x y, 0)) := ⟨by rw [HV3.out, decide_eq_false g1, decide_eq_false g2, decide_eq_false g3]; rfl⟩
  have hw : IntKind.i64.wrap (t + 1) = t + 1 := by rw [IntKind.wrap_i64]; omega
  have hw2 : wrap64 (t + 1) = t + 1 := by unfold wrap64; omega
  clear HV3 g1 g2 g3
  go_upto_region 14 with fail
  obtain ⟨w5, hw5⟩ : ∃ W, W = (w4.setCell ⟨gh, 2, none⟩ (.int .i64 (t + 1))).setCell ⟨gh, 1, none⟩ (.int .i64 (b : Int)) := ⟨_, rfl⟩
  rw [← hw5]
  have HN5 : Aside0 (w5.heap[gh]? = some (.cells #[.int .i64 h0, .int .i64 (b : Int), .int .i64 (t + 1)] 31 (0, 0))) := ⟨by rw [hw5]; exact blk_put (blk_put HQ.out 2 _ rfl) 1 _ rfl⟩
  have HB5 : Aside0 (Below w.heap.size w w5) := ⟨by rw [hw5]; exact below_set (below_set HBC.out HGH.out) HGH.out⟩
  clear hw5 n0 n1 n2 m0 m1 m2 t0 t1 t2 HQ HBC dg1 dg2 dg3 dab hw hw2
  go_wp2_with fail
  refine (rcopy_any (some ad) l.length c l w5 rfl (Kd.C_below HR.out HB5.out) hc HS.out).mono ?_
  rintro e w6 ⟨v, rfl, hRR, hB⟩
  obtain ⟨g, cap, rfl, hO, hcap, hbg, _⟩ := ownr_of hRR (by omega)
  have HO6 := Aside0.mk hO
  have HBG : Aside0 (w.heap.size ≤ g) := ⟨Nat.le_trans HB5.out.size hbg⟩
  have HB6 := Aside0.mk (below_step HB5.out hB)
  have HWS : Aside0 (w5.heap.size ≤ w6.heap.size) := ⟨hB.size⟩
  have HGB := Aside0.mk hbg
  have HB56 := Aside0.mk hB
  clear hRR hO hbg hB
  have HNG : Aside0 (gh ≠ g) := ⟨by
    have h1 := blk_lt HN5.out
    have h2 := HGB.out
    omega⟩
  have hsx := HS.out.2 x (List.mem_of_getElem? HX.out)
  have hsy := HS.out.2 y (List.mem_of_getElem? HY.out)
  have hsx2 := hsx.2
  have hsy1 := hsy.1
  have hsy2 := hsy.2
  have hokx := HVT.out.ok x (List.mem_of_getElem? HX.out)
  have hoky := HVT.out.ok y (List.mem_of_getElem? HY.out)
  have HSX2 := Aside0.mk hokx.hints.sorted
  have HSY1 := Aside0.mk hoky.has.sorted
  have HN6 := Aside0.mk (blk_below HN5.out HB56.out)
  clear hsx hsy hokx hoky HN5 HSP
  -- out[from].Has
  obtain ⟨A1', c1', A2', c2', q0, q1, q2, f0, f1, f2, r1, r2, hc1', hc2'⟩ := HO6.out.cells HX.out
  have HCR := Aside0.mk (Kd.R_reads' r1).2.2
  clear r1 r2
  go_wp2_with fail
  refine (rwithout_any A1' x.f1.length c1' x.f1 h0 w6 rfl HCR.out hc1' hsx1).mono ?_
  rintro e w7 ⟨v, rfl, hF, hB⟩
  obtain ⟨U, cu, rfl⟩ := Kd.R_slice hF
  have HO7 := Aside0.mk (HO6.out.below hB)
  have HB7 := Aside0.mk (below_step HB6.out hB)
  have HN7 := Aside0.mk (blk_below HN6.out hB)
  have HX1 : Aside0 ((l.set a ⟨x.f0, withoutL x.f1 h0, x.f2⟩)[a]? = some ⟨x.f0, withoutL x.f1 h0, x.f2⟩) := ⟨by rw [set_at HX.out, if_pos rfl]⟩
  have HO8 := Aside0.mk (HO7.out.put1 HX.out HWS.out hF)
  have HS7 : Aside0 (w5.heap.size ≤ w7.heap.size) := ⟨Nat.le_trans HWS.out hB.size⟩
  clear hF hB q0 q1 q2 f0 f1 f2 HCR hc1' hc2'
  obtain ⟨A1', c1', A2', c2', q0, q1, q2, f0, f1, f2, r1, r2, hc1', hc2'⟩ := HO7.out.cells HX.out
  clear r1 r2
  go_upto_region 16 with fail
  obtain ⟨w8, hw8⟩ : ∃ W, W = w7.setCell ⟨g, a * 3 + 1, none⟩ (.slice U (withoutL x.f1 h0).length cu) := ⟨_, rfl⟩
  rw [← hw8] at HO8 ⊢
  have HB8 : Aside0 (Below w.heap.size w w8) := ⟨by rw [hw8]; exact below_set HB7.out HBG.out⟩
  have HN8 : Aside0 (w8.heap[gh]? = some (.cells #[.int .i64 h0, .int .i64 (b : Int), .int .i64 (t + 1)] 31 (0, 0))) := ⟨by rw [hw8]; exact blk_far HN7.out HNG.out _⟩
  have HS8 : Aside0 (w5.heap.size ≤ w8.heap.size) := ⟨by rw [hw8]; exact Nat.le_trans HS7.out (size_set _ _ _)⟩
  clear hw8 q0 q1 q2 f0 f1 f2 hc1' hc2'
  -- out[from].Hints
  obtain ⟨A1', c1', A2', c2', q0, q1, q2, f0, f1, f2, r1, r2, hc1', hc2'⟩ := HO8.out.cells HX1.out
  have HCR := Aside0.mk (Kd.R_reads' r2).2.2
  clear r1 r2
  obtain ⟨n0, n1, n2, _, _, _⟩ := blk3 HN8.out
  go_cut [97] (fun u97 wx => Aside0 (OwnR wx w5.heap.size g cap (l.set a ⟨x.f0, withoutL x.f1 h0, putL x.f2 ⟨h0, b, t + 1⟩⟩)) ∧ Aside0 (Below w.heap.size w wx) ∧ Aside0 (w5.heap.size ≤ wx.heap.size) ∧ Aside0 (wx.heap[gh]? = some (.cells #[.int .i64 h0, .int .i64 (b : Int), .int .i64 (t + 1)] 31 (0, 0))))
  case first =>
    go_region_with (first | (go_at_call 75; refine (rwith_any A2' x.f2.length c2' x.f2 ⟨h0, b, t + 1⟩ _ rfl (Kd.C_below HCR.out (below_drew (Below.refl _ _))) hc2' hsx2 HSX2.out).mono ?_; rintro e w9 ⟨v, rfl, hF, hB⟩; obtain ⟨U2, cu2, rfl⟩ := Kd.R_slice hF; have HO9 := Aside0.mk ((HO8.out.below (below_drew (Below.refl _ _))).below hB); have HB9 := Aside0.mk (below_step (below_drew HB8.out) hB); have HN9 := Aside0.mk (blk_below (blk_drew HN8.out) hB); have HS9 : Aside0 (w5.heap.size ≤ w9.heap.size) := ⟨Nat.le_trans HS8.out hB.size⟩; have HOA := Aside0.mk (HO9.out.put2 HX1.out HS8.out hF); clear hF hB; obtain ⟨A1'', c1'', A2'', c2'', _, _, q2', _, _, f2', _, _, _, _⟩ := HO9.out.cells HX1.out))
    all_goals
      go_wp2_with fail
      go_meet
      case rel => exact ⟨⟨by have h := HOA.out; rw [List.set_set] at h; exact h⟩, ⟨below_set HB9.out HBG.out⟩, ⟨Nat.le_trans HS9.out (size_set _ _ _)⟩, ⟨blk_far HN9.out HNG.out _⟩⟩
  case rest =>
  obtain ⟨HO9, HB9, HS9, HN9⟩ := hcut
  have HY2 : Aside0 ((l.set a ⟨x.f0, withoutL x.f1 h0, putL x.f2 ⟨h0, b, t + 1⟩⟩)[b]? = some y) := ⟨by rw [set_at HX.out, if_neg (fun e => HAB.out e.symm)]; exact HY.out⟩
  clear n0 n1 n2 q0 q1 q2 f0 f1 f2 hc1' hc2' HCR HX1 HO8 HB8 HN8 HS8
  -- out[place].Has
  obtain ⟨wd, hwd⟩ : ∃ W, W = wc := ⟨_, rfl⟩
  rw [← hwd] at HO9 HB9 HS9 HN9 ⊢
  clear hwd
  obtain ⟨A1', c1', A2', c2', q0, q1, q2, f0, f1, f2, r1, r2, hc1', hc2'⟩ := HO9.out.cells HY2.out
  have HCR := Aside0.mk (Kd.R_reads' r1).2.2
  clear r1 r2
  obtain ⟨n0, n1, n2, _, _, _⟩ := blk3 HN9.out
  go_upto_region 17 with fail
  go_cut [108] (fun u108 wx => Aside0 (OwnR wx w5.heap.size g cap ((l.set a ⟨x.f0, withoutL x.f1 h0, putL x.f2 ⟨h0, b, t + 1⟩⟩).set b ⟨y.f0, putL y.f1 ⟨h0, b, t + 1⟩, y.f2⟩)) ∧ Aside0 (Below w.heap.size w wx) ∧ Aside0 (w5.heap.size ≤ wx.heap.size))
  case first =>
    go_region_with (first | (go_at_call 75; refine (rwith_any A1' y.f1.length c1' y.f1 ⟨h0, b, t + 1⟩ _ rfl (Kd.C_below HCR.out (below_drew (Below.refl _ _))) hc1' hsy1 HSY1.out).mono ?_; rintro e wb ⟨v, rfl, hF, hB⟩; obtain ⟨U2, cu2, rfl⟩ := Kd.R_slice hF; have HOA := Aside0.mk ((HO9.out.below (below_drew (Below.refl _ _))).below hB); have HBA := Aside0.mk (below_step (below_drew HB9.out) hB); have HSA : Aside0 (w5.heap.size ≤ wb.heap.size) := ⟨Nat.le_trans HS9.out hB.size⟩; have HOB := Aside0.mk (HOA.out.put1 HY2.out HS9.out hF); clear hF hB; obtain ⟨A1'', c1'', A2'', c2'', _, q1', _, _, f1', _, _, _, _, _⟩ := HOA.out.cells HY2.out))
    all_goals
      go_wp2_with fail
      go_meet
      case rel => exact ⟨HOB, ⟨below_set HBA.out HBG.out⟩, ⟨Nat.le_trans HSA.out (size_set _ _ _)⟩⟩
  case rest =>
  obtain ⟨HOA, HBA, HSA⟩ := hcut
  have HY3 : Aside0 (((l.set a ⟨x.f0, withoutL x.f1 h0, putL x.f2 ⟨h0, b, t + 1⟩⟩).set b ⟨y.f0, putL y.f1 ⟨h0, b, t + 1⟩, y.f2⟩)[b]? = some ⟨y.f0, putL y.f1 ⟨h0, b, t + 1⟩, y.f2⟩) := ⟨by rw [set_at HY2.out, if_pos rfl]⟩
  clear n0 n1 n2 q0 q1 q2 f0 f1 f2 hc1' hc2' HCR HO9 HB9 HN9 HS9
  -- out[place].Hints
  obtain ⟨we, hwe⟩ : ∃ W, W = wc := ⟨_, rfl⟩
  rw [← hwe] at HOA HBA HSA ⊢
  clear hwe
  obtain ⟨A1', c1', A2', c2', q0, q1, q2, f0, f1, f2, r1, r2, hc1', hc2'⟩ := HOA.out.cells HY3.out
  have HCR := Aside0.mk (Kd.R_reads' r2).2.2
  clear r1 r2
  dsimp only at q1 q2 HCR hc1' hc2'
  go_wp2_with fail
  refine (rwithout_any A2' y.f2.length c2' y.f2 h0 we rfl HCR.out hc2' hsy2).mono ?_
  rintro e wf ⟨v, rfl, hF, hB⟩
  obtain ⟨U3, cu3, rfl⟩ := Kd.R_slice hF
  have HOF := Aside0.mk (HOA.out.below hB)
  have HBF := Aside0.mk (below_step HBA.out hB)
  have hOz := HOF.out.put2 HY3.out HSA.out hF
  dsimp only at hOz
  rw [List.set_set] at hOz
  obtain ⟨l2, hl2⟩ : ∃ l2, l2 = moveL l a b h0 ⟨h0, b, t + 1⟩ x y := ⟨_, rfl⟩
  have hOy : OwnR (wf.setCell ⟨g, b * 3 + 2, none⟩ (.slice U3 (withoutL y.f2 h0).length cu3)) w5.heap.size g cap l2 := by rw [hl2]; exact hOz
  have HL : Aside0 (l2.length = l.length) := ⟨by rw [hl2]; unfold moveL; rw [List.length_set, List.length_set]⟩
  rw [← hl2] at HV4
  have HBZ : Aside0 (Below w.heap.size w (wf.setCell ⟨g, b * 3 + 2, none⟩ (.slice U3 (withoutL y.f2 h0).length cu3))) := ⟨below_set HBF.out HBG.out⟩
  have HCZ := Aside0.mk hOy.C
  clear hF hB q0 q1 q2 f0 f1 f2 HCR hc1' hc2' hl2 hOz hOy
  obtain ⟨A1', c1', A2', c2', q0, q1, q2, f0, f1, f2, r1, r2, hc1', hc2'⟩ := HOF.out.cells HY3.out
  clear r1 r2
  go_wp2_with fail
  go_returns
  exact ⟨some ⟨g, 0, none⟩, cap, by rw [HV4.out, HL.out]; rfl, by rw [HV4.out, HL.out]; exact hcap, by rw [HV4.out]; exact HCZ.out, HBZ.out⟩
end Go.Proofs.Ytjnceoohlcchnaa.Print

/-! The reference: a copy of a map, ready to be appended to. -/
namespace Go.Proofs.Ytjnceoohlcchnaa.Print
open Go Go.RowKit Go.Deep Go.Proofs.YtjnceoohlcchnaaW.PrintWords Go.Proofs.YtjnceoohlcchnaaW.PrintLast Go.Proofs.YtjnceoohlcchnaaW.PrintMore

/-- a row of one place that says one hint -/
theorem one_postR {W : World} {base gh c : Nat} {h : S31} (hb : base ≤ W.heap.size) (hR : Kd.R k31 31 W base (fun k => k = gh) (.slice (some ⟨gh, 0, none⟩) 1 c) [h]) (hlt : gh < W.heap.size) :
    Kd.R k36 36 (W.alloc (.cells #[.bool true, .slice none 0 0, .slice (some ⟨gh, 0, none⟩) 1 c] 36)) base (fun k => k = gh ∨ k = W.heap.size) (.slice (some ⟨W.heap.size, 0, none⟩) 1 1) [⟨true, [], [h]⟩] := by
  have h2 := World.ownsRow_lit (base := base) (e := 36) (size := 3) W #[.bool true, .slice none 0 0, .slice (some ⟨gh, 0, none⟩) 1 c] 1 hb (by simp [maxLen]) (by simp)
  refine ⟨fun k hk => by simp [Value.ownBlock] at hk; exact .inr hk.symm, [.bool true, .slice none 0 0, .slice (some ⟨gh, 0, none⟩) 1 c], (show World.ownsRow _ _ _ 3 _ _ _ from by simpa using h2), rfl, fun j p hj => ?_⟩
  match j, hj with
  | 0, hj =>
  cases hj
  exact k36_mkM _ _ _ (⟨true, [], [h]⟩ : S36) (Kd.R_nil _ _ _ _ _) (Kd.R_mono (Kd.R_below hR (below_alloc (Below.refl _ _) _)) (fun k hk => ⟨.inl hk, by simp [Value.ownBlock]; omega⟩))
/-- a copy and a row of one, ready to be appended -/
def ReadyR (w2 Wf : World) (v : Value) (A : Option Addr) (l : List S36) (h : S31) : Prop :=
  ∃ (bs : Nat) (okp : Nat → Prop), Kd.N k36 36 Wf bs (fun k => w2.heap.size ≤ k) v l ∧ Kd.F k36 Wf okp A 1 [⟨true, [], [h]⟩] ∧ (∀ k, okp k → w2.heap.size ≤ k ∧ some k ≠ v.ownBlock) ∧ Below w2.heap.size w2 Wf ∧ w2.heap.size ≤ bs ∧ bs ≤ Wf.heap.size
theorem rclone_a (A : Option Addr) (c : Nat) (l : List S36) (h : S31) (w2 : World) (hr : Kd.C k36 w2 A l.length l) (hc : l.length ≤ c) (hs : Short l) :
    Calls Try.prog 74 #[.slice A l.length c] w2.drew fun e w3 => ∃ A3 c3, e = .returned (.slice A3 l.length c3) ∧ Below w2.heap.size w2 w3 ∧ ReadyR w2 ((w3.alloc (.cells #[.int .i64 h.f0, .int .i64 h.f1, .int .i64 h.f2] 31)).alloc (.cells #[.bool true, .slice none 0 0, .slice (some ⟨w3.heap.size, 0, none⟩) 1 1] 36)) (.slice A3 l.length c3) (some ⟨w3.heap.size + 1, 0, none⟩) l h := by
  refine (rcopy_any A l.length c l w2.drew rfl (Kd.C_below hr (below_drew (Below.refl _ _))) hc hs).mono ?_
  rintro e w3 ⟨v, rfl, hRR, hB⟩
  have hN := Kd.N_mono (Kd.R_N (Kd.R_bound hRR)) (ok' := fun k => w2.heap.size ≤ k) (fun k hk => hk.2.1)
  obtain ⟨A3, c3, rfl⟩ := Kd.N_slice hN
  have hB3 : Below w2.heap.size w2 w3 := below_step (below_drew (Below.refl _ _)) hB
  have hR2 := one_postR (W := w3.alloc (.cells #[.int .i64 h.f0, .int .i64 h.f1, .int .i64 h.f2] 31)) (base := w3.heap.size) (by simp) (one_hint w3 h) (by simp)
  simp only [World.size_alloc] at hR2
  refine ⟨A3, c3, rfl, hB3, w2.heap.size, _, Kd.N_below hN (below_alloc (below_alloc (Below.refl _ _) _) _), Kd.R_F hR2, fun k hk => ?_, below_alloc (below_alloc hB3 _) _, Nat.le_refl _, ?_⟩
  · have h1 := hB3.size
    refine ⟨by rcases hk with hk | hk <;> omega, fun e => ?_⟩
    have h2 := Kd.N_lt hN k e.symm
    rcases hk with hk | hk <;> omega
  · have h1 := hB3.size
    simp only [World.size_alloc]
    omega
theorem rclone_b (A : Option Addr) (c : Nat) (l : List S36) (h : S31) (w2 : World) (hr : Kd.C k36 w2 A l.length l) (hc : l.length ≤ c) (hs : Short l) :
    Calls Try.prog 74 #[.slice A l.length c] (w2.drew.alloc (.cells #[.int .i64 h.f0, .int .i64 h.f1, .int .i64 h.f2] 31)) fun e w3 => ∃ A3 c3, e = .returned (.slice A3 l.length c3) ∧ Below w2.heap.size w2 w3 ∧ ReadyR w2 (w3.alloc (.cells #[.bool true, .slice none 0 0, .slice (some ⟨w2.heap.size, 0, none⟩) 1 1] 36)) (.slice A3 l.length c3) (some ⟨w3.heap.size, 0, none⟩) l h := by
  have hB0 : Below w2.heap.size w2 (w2.drew.alloc (.cells #[.int .i64 h.f0, .int .i64 h.f1, .int .i64 h.f2] 31)) := below_alloc (below_drew (Below.refl _ _)) _
  refine (rcopy_any A l.length c l _ rfl (Kd.C_below hr hB0) hc hs).mono ?_
  rintro e w3 ⟨v, rfl, hRR, hB⟩
  have hN := Kd.N_mono (Kd.R_N (Kd.R_bound hRR)) (ok' := fun k => w2.heap.size ≤ k) (fun k hk => Nat.le_trans hB0.size hk.2.1)
  obtain ⟨A3, c3, rfl⟩ := Kd.N_slice hN
  have hB3 : Below w2.heap.size w2 w3 := below_step hB0 hB
  have hz : (w2.drew.alloc (.cells #[.int .i64 h.f0, .int .i64 h.f1, .int .i64 h.f2] 31)).heap.size = w2.heap.size + 1 := by rw [World.size_alloc]; rfl
  have hs3 := hB.size
  rw [hz] at hs3
  have hR2 := one_postR (W := w3) (base := w2.heap.size) (gh := w2.heap.size) hB3.size (Kd.R_below (one_hint w2.drew h) hB) (by omega)
  have hvb := Kd.N_base hN
  rw [hz] at hvb
  refine ⟨A3, c3, rfl, hB3, w2.heap.size + 1, _, Kd.N_below (hz ▸ hN) (below_alloc (Below.refl _ _) _), Kd.R_F hR2, fun k hk => ?_, below_alloc hB3 _, Nat.le_succ _, ?_⟩
  · refine ⟨by rcases hk with hk | hk <;> omega, fun e => ?_⟩
    have h2 := Kd.N_lt hN k e.symm
    have h3 := hvb k e.symm
    rcases hk with hk | hk <;> omega
  · simp only [World.size_alloc]
    omega
theorem rclone_c (A : Option Addr) (c : Nat) (l : List S36) (h : S31) (w2 : World) (hr : Kd.C k36 w2 A l.length l) (hc : l.length ≤ c) (hs : Short l) :
    Calls Try.prog 74 #[.slice A l.length c] ((w2.drew.alloc (.cells #[.int .i64 h.f0, .int .i64 h.f1, .int .i64 h.f2] 31)).alloc (.cells #[.bool true, .slice none 0 0, .slice (some ⟨w2.heap.size, 0, none⟩) 1 1] 36)) fun e w3 => ∃ A3 c3, e = .returned (.slice A3 l.length c3) ∧ Below w2.heap.size w2 w3 ∧ ReadyR w2 w3 (.slice A3 l.length c3) (some ⟨w2.heap.size + 1, 0, none⟩) l h := by
  have hB0 : Below w2.heap.size w2 ((w2.drew.alloc (.cells #[.int .i64 h.f0, .int .i64 h.f1, .int .i64 h.f2] 31)).alloc (.cells #[.bool true, .slice none 0 0, .slice (some ⟨w2.heap.size, 0, none⟩) 1 1] 36)) := below_alloc (below_alloc (below_drew (Below.refl _ _)) _) _
  refine (rcopy_any A l.length c l _ rfl (Kd.C_below hr hB0) hc hs).mono ?_
  rintro e w3 ⟨v, rfl, hRR, hB⟩
  have hN := Kd.N_mono (Kd.R_N (Kd.R_bound hRR)) (ok' := fun k => w2.heap.size ≤ k) (fun k hk => Nat.le_trans hB0.size hk.2.1)
  obtain ⟨A3, c3, rfl⟩ := Kd.N_slice hN
  have hB3 : Below w2.heap.size w2 w3 := below_step hB0 hB
  have hz1 : (w2.drew.alloc (.cells #[.int .i64 h.f0, .int .i64 h.f1, .int .i64 h.f2] 31)).heap.size = w2.heap.size + 1 := by rw [World.size_alloc]; rfl
  have hz : ((w2.drew.alloc (.cells #[.int .i64 h.f0, .int .i64 h.f1, .int .i64 h.f2] 31)).alloc (.cells #[.bool true, .slice none 0 0, .slice (some ⟨w2.heap.size, 0, none⟩) 1 1] 36)).heap.size = w2.heap.size + 2 := by rw [World.size_alloc, hz1]
  have hs3 := hB.size
  rw [hz] at hs3
  have hR2 := Kd.R_below (one_postR (W := w2.drew.alloc (.cells #[.int .i64 h.f0, .int .i64 h.f1, .int .i64 h.f2] 31)) (base := w2.heap.size) (gh := w2.heap.size) (by rw [hz1]; omega) (one_hint w2.drew h) (by rw [hz1]; omega)) hB
  rw [hz1] at hR2
  have hvb := Kd.N_base hN
  rw [hz] at hvb
  refine ⟨A3, c3, rfl, hB3, w2.heap.size + 2, _, hz ▸ hN, Kd.R_F hR2, fun k hk => ?_, hB3, by omega, hs3⟩
  refine ⟨by rcases hk with hk | hk <;> omega, fun e => ?_⟩
  have h3 := hvb k e.symm
  rcases hk with hk | hk <;> omega
end Go.Proofs.Ytjnceoohlcchnaa.Print

/-! The reference: telling. -/
namespace Go.Proofs.Ytjnceoohlcchnaa.Print
open Go Go.RowKit Go.Deep Go.Proofs.YtjnceoohlcchnaaW.PrintWords Go.Proofs.YtjnceoohlcchnaaW.PrintLast Go.Proofs.YtjnceoohlcchnaaW.PrintMore

theorem tell_cond (l : List S36) (h : S31) : (!listF [h] l.length || !validF (moreL l h) (l.length + 1 : Nat)) = (decide ((l.length : Int) ≤ h.f1) || !rValid (moreL l h)) := by
  have hl : (moreL l h).length = l.length + 1 := by unfold moreL; simp
  rw [rvalid_is, hl]
  cases hv : validF (moreL l h) ((l.length + 1 : Nat) : Int) with
  | false => simp
  | true =>
    have hvt := (vat_iff _ _).1 ((valid_iff _ _).1 hv)
    have hp := hvt.ok ⟨true, [], [h]⟩ (by unfold moreL; simp)
    obtain ⟨a1, a2, a3, a4, _⟩ := hp.hints.all h (List.mem_singleton.2 rfl)
    have : listF [h] l.length = decide (h.f1 < l.length) := by
      by_cases c : h.f1 < l.length
      · rw [decide_eq_true c]
        exact (listF_iff _ _).2 ⟨by rw [List.length_singleton]; omega, List.pairwise_singleton _ _, fun x hx => by rw [List.mem_singleton] at hx; rw [hx]; exact ⟨a1, a2, a3, a4, c⟩⟩
      · rw [decide_eq_false c]
        refine Bool.eq_false_iff.2 (fun e => c ?_)
        exact (((listF_iff _ _).1 e).all h (List.mem_singleton.2 rfl)).2.2.2.2
    rw [this, Bool.not_true, Bool.or_false, Bool.or_false]
    by_cases c : h.f1 < l.length
    · rw [decide_eq_true c, decide_eq_false (by omega)]; rfl
    · rw [decide_eq_false c, decide_eq_true (by omega)]; rfl
set_option maxRecDepth 100000 in
set_option maxHeartbeats 16000000 in
theorem rtell_any (A : Option Addr) (n c : Nat) (l : List S36) (place : Int) (h : S31) (w : World) (hn : n = l.length) (hr : Kd.C k36 w A l.length l) (hc : n ≤ c) (hl : Short l) :
    Calls Try.prog 29 #[.slice A n c, .int .i64 place, .agg #[.int .i64 h.f0, .int .i64 h.f1, .int .i64 h.f2]] w fun e w' => ∃ A2 c2, e = .returned (.tuple #[.slice A2 (tellG l place h).1.length c2, .int .i64 (tellG l place h).2]) ∧ (tellG l place h).1.length ≤ c2 ∧ Kd.C k36 w' A2 (tellG l place h).1.length (tellG l place h).1 ∧ Below w.heap.size w w' := by
  subst hn
  have HR := Aside0.mk hr
  have HS := Aside0.mk hl
  have hl6 := hl.1
  clear hr hl
  have hu := Try.underlying31
  go_enter Try.func29, Try.ntmps29
  go_upto_region 1 with fail
  obtain ⟨gb, hgb⟩ : ∃ g, g = w.heap.size := ⟨_, rfl⟩
  obtain ⟨w1, hw1⟩ : ∃ w1, w1 = w.alloc (Obj.cells #[Value.int IntKind.i64 h.f0, Value.int IntKind.i64 h.f1, Value.int IntKind.i64 h.f2] 31) := ⟨_, rfl⟩
  rw [← hw1, ← hgb]
  have HB1 : Aside0 (Below w.heap.size w w1) := ⟨by rw [hw1]; exact below_alloc (Below.refl _ _) _⟩
  have HQ1 : Aside0 (w1.heap[gb]? = some (.cells #[.int .i64 h.f0, .int .i64 h.f1, .int .i64 h.f2] 31 (0, 0))) := ⟨by rw [hw1, hgb]; exact heap_alloc_new _ _⟩
  clear hw1 hgb
  obtain ⟨n0, n1, n2, _, _, _⟩ := blk3 HQ1.out
  go_wp2_with fail
  refine (rasked_any A l.length c l place h.f0 w1 rfl (Kd.C_below HR.out HB1.out) hc HS.out).mono ?_
  rintro e w2 ⟨rfl, hB⟩
  have HB2 := Aside0.mk (below_step HB1.out hB)
  have HQ2 := Aside0.mk (blk_below HQ1.out hB)
  clear hB n0 n1 n2 HB1 HQ1
  obtain ⟨ok, hok⟩ : ∃ ok, ok = decide (1 ≤ h.f0) := ⟨_, rfl⟩
  rw [← hok]
  by_cases hgc : givenC l ok [place] = 0
  rotate_left
  · have HV : Aside0 (tellG l place h = ([], givenC l ok [place])) := ⟨by unfold tellG; rw [← hok, if_neg hgc]⟩
    obtain ⟨gc, hgc2⟩ : ∃ gc, gc = givenC l ok [place] := ⟨_, rfl⟩
    rw [← hgc2] at hgc HV ⊢
    have dg : (gc != 0) = true := by rw [bne_iff_ne]; exact hgc
    clear hgc hgc2 hok
    go_wp2_with fail
    go_returns
    exact ⟨none, 0, by rw [HV.out]; rfl, by rw [HV.out]; exact Nat.le_refl _, by rw [HV.out]; exact Kd.C_nil _ _, HB2.out⟩
  obtain ⟨b, hpb, hbl, hy⟩ := given_post hgc
  have hvat := check_vat (given_in hgc).2.1
  have HM16 := Aside0.mk ((check_iff l).1 (given_in hgc).2.1).most
  obtain ⟨y, hye⟩ : ∃ y, y = postA l place := ⟨_, rfl⟩
  have HV : Aside0 (tellG l place h = (if (!y.f0 || (decide ((l.length : Int) ≤ h.f1) || !rValid (moreL l h))) = true then ([], 1) else if (tellF l b h).1 = true then ((tellF l b h).2, 0) else ([], 2))) := ⟨by rw [← tell_cond]; unfold tellG; rw [← hok, if_pos hgc, hye, hpb]; rfl⟩
  rw [← hye] at hy
  subst hpb
  rw [hgc]
  have hoky := hvat.ok y (List.mem_of_getElem? hy)
  have HT1 := Aside0.mk (rat_look hoky.has.sorted h.f0)
  have HT2 := Aside0.mk (rat_look hoky.hints.sorted h.f0)
  have HSS := Aside0.mk hoky.hints.sorted
  have HTF : Aside0 (tellF l b h = if atB y.f1 h.f0 = true then (true, l) else if (atB y.f2 h.f0 && decide (h.f2 ≤ (lookL y.f2 h.f0).f2)) = true then (true, l) else if (!atB y.f2 h.f0 && decide (4000 ≤ y.f2.length)) = true then (false, l) else (true, l.set b ⟨y.f0, y.f1, putL y.f2 h⟩)) := ⟨by unfold tellF; rw [postA_some hy]⟩
  have HY := Aside0.mk hy
  have hsy := HS.out.2 y (List.mem_of_getElem? hy)
  have hsy1 := hsy.1
  have hsy2 := hsy.2
  have b0 : (0 : Int) ≤ (b : Int) := by omega
  have b1 : (b : Int) < (l.length : Int) := by omega
  clear hgc hok hy hye hvat hoky hsy
  obtain ⟨ad, y2, A1, c1, A2, c2, rfl, hy2, p0, p1, p2, l1, g1, l2, g2⟩ := post_at HR.out b hbl
  rw [HY.out] at hy2
  obtain rfl := Option.some.inj hy2
  have G1 := Aside0.mk g1
  have G2 := Aside0.mk g2
  obtain ⟨u, hu0⟩ : ∃ u, u = y.f0 := ⟨_, rfl⟩
  rw [← hu0] at p0 HV
  have HU := Aside0.mk hu0
  have HSP : Aside0 (∀ w', Below w.heap.size w w' → (w'.cell? (ad.add (b * 3)) = some (.bool u) ∧ w'.cell? ⟨(ad.add (b * 3)).block, (ad.add (b * 3)).off + 1, none⟩ = some (.slice A1 y.f1.length c1) ∧ w'.cell? ⟨(ad.add (b * 3)).block, (ad.add (b * 3)).off + 2, none⟩ = some (.slice A2 y.f2.length c2))) := ⟨fun w' hb => ⟨cell_below hb p0, cell_below hb p1, cell_below hb p2⟩⟩
  clear hy2 g1 g2 p0 p1 p2 hu0
  go_upto_region 4 with fail
  go_cut [9] (fun u9 wx => ∃ A3 c3, u9 = .slice A3 (l.length + 1) c3 ∧ l.length + 1 ≤ c3 ∧ Aside0 (Kd.C k36 wx A3 (moreL l h).length (moreL l h)) ∧ Aside0 (wx.heap[gb]? = some (.cells #[.int .i64 h.f0, .int .i64 h.f1, .int .i64 h.f2] 31 (0, 0))) ∧ Aside0 (Below w.heap.size w wx))
  case first =>
    obtain ⟨n0, n1, n2, _, _, _⟩ := blk3 HQ2.out
    have HRA2 := Aside0.mk (Kd.C_below HR.out HB2.out)
    have HSB : Aside0 (∀ w', Below w2.heap.size w2 w' → (w'.cell? ⟨gb, 0, none⟩ = some (.int .i64 h.f0) ∧ w'.cell? ⟨gb, 1, none⟩ = some (.int .i64 h.f1) ∧ w'.cell? ⟨gb, 2, none⟩ = some (.int .i64 h.f2))) := ⟨fun w' hb => by
      obtain ⟨a, b, c, _, _, _⟩ := blk3 (blk_below HQ2.out hb)
      exact ⟨a, b, c⟩⟩
    go_region_held3 (fun w' => w'.cell? ⟨gb, 0, none⟩ = some (.int .i64 h.f0) ∧ w'.cell? ⟨gb, 1, none⟩ = some (.int .i64 h.f1) ∧ w'.cell? ⟨gb, 2, none⟩ = some (.int .i64 h.f2)) (exact HSB.out _ (by repeat (first | exact Below.refl _ _ | exact HB4.out | exact HB3.out | refine below_drew ?_ | refine below_alloc ?_ _))) (first | (go_at_call 74; refine (rclone_a (some ad) c l h w2 HRA2.out hc HS.out).mono ?_; rintro e w3 ⟨A3, c3, rfl, hB, hRA⟩; have HB3 := Aside0.mk hB; have HRA := Aside0.mk hRA; clear hB hRA) | (go_at_call 74; refine (rclone_b (some ad) c l h w2 HRA2.out hc HS.out).mono ?_; rintro e w3 ⟨A3, c3, rfl, hB, hRA⟩; have HB3 := Aside0.mk hB; have HRA := Aside0.mk hRA; clear hB hRA) | (go_at_call 74; refine (rclone_c (some ad) c l h w2 HRA2.out hc HS.out).mono ?_; rintro e w3 ⟨A3, c3, rfl, hB, hRA⟩; have HB3 := Aside0.mk hB; have HRA := Aside0.mk hRA; clear hB hRA) | (obtain ⟨bs, okp, hN, hF, hK, hBf, hb1, hb2⟩ := HRA.out; refine Kd.N_append_rows_step k36 bs (by rfl) (.tmp 21) (.tmp 25) 22 36 (.agg #[.bool false, .slice none 0 0, .slice none 0 0]) 56 rfl Try.underlying22 info_api rfl (by decide) (by decide) (.slice A3 l.length c3) l [⟨true, [], [h]⟩] _ 1 1 (fun k => w2.heap.size ≤ k) okp rfl rfl hN hF hK (fun k hk => Nat.le_trans hBf.size hk) (Below.refl _ _) hb2 (by omega) ?_; intro v1 w4 hN1 hB1 hg1 hat; have HB4 : Aside0 (Below w2.heap.size w2 w4) := ⟨hBf.grown hg1 hBf.size (fun k hk => Nat.le_trans hb1 (Kd.N_base hN k hk))⟩; obtain ⟨A4, c4, rfl⟩ := Kd.N_slice hN1; have HN1 := Aside0.mk hN1; clear hN1 hB1 hg1 hat hN hF hK hBf hb1 hb2) | fail)
    all_goals
      go_wp2_with fail
      go_meet
      case rel =>
        have h1 := Kd.N_reads' HN1.out
        have hl : (moreL l h).length = l.length + 1 := by unfold moreL; simp
        exact ⟨A4, c4, by simp, by have := h1.2.1; simpa using this, ⟨h1.2.2⟩, ⟨blk_below HQ2.out HB4.out⟩, ⟨below_step HB2.out HB4.out⟩⟩
  case rest =>
  obtain ⟨A3, c3, rfl, hc3, HC3, HQ3, HB3⟩ := hcut
  obtain ⟨w3, hw3⟩ : ∃ W, W = wc := ⟨_, rfl⟩
  rw [← hw3] at HC3 HQ3 HB3 ⊢
  clear hw3 HB2 HQ2
  have hml : (moreL l h).length = l.length + 1 := by unfold moreL; simp
  have HSM : Aside0 (Short (moreL l h)) := ⟨by rw [hml]; have := HM16.out; omega, fun z hz => by
    unfold moreL at hz
    rcases List.mem_append.1 hz with hz | hz
    · exact HS.out.2 z hz
    · rw [List.mem_singleton.1 hz]
      exact ⟨by simp, by simp⟩⟩
  have HML := Aside0.mk hml
  clear hml
  obtain ⟨bad, hbad⟩ : ∃ b, b = (!u || (decide ((l.length : Int) ≤ h.f1) || !rValid (moreL l h))) := ⟨_, rfl⟩
  rw [← hbad] at HV
  have HBAD := Aside0.mk hbad
  clear hbad
  go_upto_region 5 with fail
  obtain ⟨t0, t1, t2⟩ := HSP.out _ HB3.out
  obtain ⟨n0, n1, n2, _, _, _⟩ := blk3 HQ3.out
  go_cut [44] (fun u44 wx => u44 = .bool bad ∧ Aside0 (Below w3.heap.size w3 wx))
  case first =>
    cases u with
    | false =>
      go_wp2_with fail
      go_meet
      case rel => exact ⟨by rw [HBAD.out]; rfl, ⟨Below.refl _ _⟩⟩
    | true =>
      by_cases cp : (l.length : Int) ≤ h.f1
      · have dp : decide ((l.length : Int) ≤ h.f1) = true := decide_eq_true cp
        clear cp
        go_wp2_with fail
        go_meet
        case rel => exact ⟨by rw [HBAD.out, dp]; rfl, ⟨Below.refl _ _⟩⟩
      · have dp : decide ((l.length : Int) ≤ h.f1) = false := decide_eq_false cp
        clear cp
        go_wp2_with fail
        refine (rvalid_any A3 (l.length + 1) c3 (moreL l h) w3 HML.out.symm HC3.out hc3 HSM.out).mono ?_
        rintro e w4 ⟨rfl, hB⟩
        have HB4 := Aside0.mk hB
        clear hB
        go_wp2_with fail
        go_meet
        case rel => exact ⟨by rw [HBAD.out, dp]; simp, HB4⟩
  case rest =>
  obtain ⟨rfl, hcut⟩ := hcut
  obtain ⟨w4, hw4⟩ : ∃ W, W = wc := ⟨_, rfl⟩
  rw [← hw4] at hcut ⊢
  have HB4 := Aside0.mk (below_step HB3.out hcut.out)
  have HQ4 := Aside0.mk (blk_below HQ3.out hcut.out)
  clear hw4 hcut HB3 HQ3 HC3 HSM HML HM16 HBAD t0 t1 t2 n0 n1 n2 hc3
  cases bad with
  | true =>
    have HV2 : Aside0 (tellG l b h = ([], 1)) := ⟨by rw [HV.out]; rfl⟩
    clear HV
    go_wp2_with fail
    go_returns
    exact ⟨none, 0, by rw [HV2.out]; rfl, by rw [HV2.out]; exact Nat.le_refl _, by rw [HV2.out]; exact Kd.C_nil _ _, HB4.out⟩
  | false =>
  have HV2 : Aside0 (tellG l b h = if (tellF l b h).1 = true then ((tellF l b h).2, 0) else ([], 2)) := ⟨by rw [HV.out]; rfl⟩
  clear HV
  go_wp2_with fail
  refine (rcopy_any (some ad) l.length c l w4 rfl (Kd.C_below HR.out HB4.out) hc HS.out).mono ?_
  rintro e w5 ⟨v, rfl, hRR, hB⟩
  obtain ⟨g, cap, rfl, hO, hcap, hbg, _⟩ := ownr_of hRR (by omega)
  have HO5 := Aside0.mk hO
  have HBG : Aside0 (w.heap.size ≤ g) := ⟨Nat.le_trans HB4.out.size hbg⟩
  have HB5 := Aside0.mk (below_step HB4.out hB)
  have HQ5 := Aside0.mk (blk_below HQ4.out hB)
  have HNG : Aside0 (gb ≠ g) := ⟨by have h1 := blk_lt HQ4.out; omega⟩
  have HWS : Aside0 (w4.heap.size ≤ w5.heap.size) := ⟨hB.size⟩
  clear hRR hO hbg hB HB4 HQ4
  -- the index among the hints
  go_upto_region 8 with fail
  have HS5 : Aside0 (∀ w', Below w5.heap.size w5 w' → (w'.cell? ⟨(ad.add (b * 3)).block, (ad.add (b * 3)).off + 1, none⟩ = some (.slice A1 y.f1.length c1) ∧ w'.cell? ⟨(ad.add (b * 3)).block, (ad.add (b * 3)).off + 2, none⟩ = some (.slice A2 y.f2.length c2) ∧ w'.cell? ⟨gb, 0, none⟩ = some (.int .i64 h.f0) ∧ w'.cell? ⟨gb, 2, none⟩ = some (.int .i64 h.f2))) := ⟨fun w' hb => by
    obtain ⟨_, t1, t2⟩ := HSP.out _ (below_step HB5.out hb)
    obtain ⟨a, _, c, _, _, _⟩ := blk3 (blk_below HQ5.out hb)
    exact ⟨t1, t2, a, c⟩⟩
  go_cut [11] (fun u11 wx => u11 = .int .i64 (rAt y.f2 h.f0) ∧ Aside0 (Below w5.heap.size w5 wx))
  case first =>
    go_region_held3 (fun w' => w'.cell? ⟨(ad.add (b * 3)).block, (ad.add (b * 3)).off + 1, none⟩ = some (.slice A1 y.f1.length c1) ∧ w'.cell? ⟨(ad.add (b * 3)).block, (ad.add (b * 3)).off + 2, none⟩ = some (.slice A2 y.f2.length c2) ∧ w'.cell? ⟨gb, 0, none⟩ = some (.int .i64 h.f0) ∧ w'.cell? ⟨gb, 2, none⟩ = some (.int .i64 h.f2)) (exact HS5.out _ (by repeat (first | exact Below.refl _ _ | exact HB6.out | refine below_drew ?_))) (first | (go_at_call 73; refine (rat_any A2 y.f2.length c2 y.f2 h.f0 _ rfl (Kd.C_below G2.out (below_step HB5.out (by repeat (first | exact Below.refl _ _ | refine below_drew ?_)))) l2 hsy2).mono ?_; rintro e w6 ⟨rfl, hB⟩; have HB6 : Aside0 (Below w5.heap.size w5 w6) := ⟨below_step (by repeat (first | exact Below.refl _ _ | refine below_drew ?_)) hB⟩; clear hB) | fail)
    all_goals
      go_wp2_with fail
      go_meet
      case rel => exact ⟨rfl, HB6⟩
  case rest =>
  obtain ⟨rfl, hcut⟩ := hcut
  obtain ⟨w6, hw6⟩ : ∃ W, W = wc := ⟨_, rfl⟩
  rw [← hw6] at hcut ⊢
  have HB56 := hcut
  clear hw6 hcut
  obtain ⟨t, ht⟩ : ∃ t, t = rAt y.f2 h.f0 := ⟨_, rfl⟩
  rw [← ht] at HT2 ⊢
  clear ht
  obtain ⟨f, hf⟩ : ∃ f, f = rAt y.f1 h.f0 := ⟨_, rfl⟩
  rw [← hf] at HT1
  have HFF := Aside0.mk hf
  clear hf
  have HSTAY : Aside0 ((f = -1 ∧ atB y.f1 h.f0 = false) ∨ ∃ q : Nat, f = (q : Int) ∧ atB y.f1 h.f0 = true) := ⟨by
    rcases HT1.out with ⟨e1, e2, _⟩ | ⟨q, _, e1, _, _, e2, _⟩
    · exact .inl ⟨e1, e2⟩
    · exact .inr ⟨q, e1, e2⟩⟩
  clear HT1
  go_upto_region 9 with fail
  go_cut [81] (fun u81 wx => u81 = .bool (atB y.f1 h.f0 || (atB y.f2 h.f0 && decide (h.f2 ≤ (lookL y.f2 h.f0).f2))) ∧ Aside0 (Below w5.heap.size w5 wx))
  case first =>
    rcases HSTAY.out with ⟨rfl, ea⟩ | ⟨qa, rfl, ea⟩
    · replace ea := Aside0.mk ea
      rcases HT2.out with ⟨rfl, e2, _⟩ | ⟨q, g0, rfl, hq, hg, e2, e3⟩
      · replace e2 := Aside0.mk e2
        clear HT2 HSTAY
        refine wp_region_held_drew (S := (fun w' : World => (w'.cell? ⟨(ad.add (b * 3)).block, (ad.add (b * 3)).off + 1, none⟩ = some (.slice A1 y.f1.length c1) ∧ w'.cell? ⟨(ad.add (b * 3)).block, (ad.add (b * 3)).off + 2, none⟩ = some (.slice A2 y.f2.length c2) ∧ w'.cell? ⟨gb, 0, none⟩ = some (.int .i64 h.f0) ∧ w'.cell? ⟨gb, 2, none⟩ = some (.int .i64 h.f2)))) (by kernel_rfl) ?_ (fun hHeld => ?_)
        · exact HS5.out _ (below_drew HB56.out)
        refine wpAnyH_take (i := 0) (v := ?_) (at_ rfl) (by kernel_rfl) (by kernel_rfl) (by kernel_rfl) (fun _ _ _ h => h) (Or.inl ⟨by rfl, ?_⟩) (by assumption) ?_
        rotate_left 1
        · intro wq hSw
          (try dsimp only at hSw)
          go_simp
          all_goals with_reducible rfl
        (try simp only [Act.put, List.setIfInBounds_toArray, List.set_cons_zero, List.set_cons_succ])
        refine wpAnyH_take (i := 1) (v := ?_) (at_ rfl) (by kernel_rfl) (by kernel_rfl) (by kernel_rfl) (fun _ _ _ h => h) (Or.inl ⟨by rfl, ?_⟩) (by assumption) ?_
        rotate_left 1
        · intro wq hSw
          (try dsimp only at hSw)
          go_simp
          all_goals with_reducible rfl
        (try simp only [Act.put, List.setIfInBounds_toArray, List.set_cons_zero, List.set_cons_succ])
        refine wpAnyH_take (i := 2) (v := ?_) (at_ rfl) (by kernel_rfl) (by kernel_rfl) (by kernel_rfl) (fun _ _ _ h => h) (Or.inl ⟨by rfl, ?_⟩) (by assumption) ?_
        rotate_left 1
        · intro wq hSw
          (try dsimp only at hSw)
          go_simp
          all_goals with_reducible rfl
        (try simp only [Act.put, List.setIfInBounds_toArray, List.set_cons_zero, List.set_cons_succ])
        refine wpAnyH_take (i := 3) (v := ?_) (at_ rfl) (by kernel_rfl) (by kernel_rfl) (by kernel_rfl) (fun _ _ _ h => h) (Or.inl ⟨by rfl, ?_⟩) (by assumption) ?_
        rotate_left 1
        · intro wq hSw
          (try dsimp only at hSw)
          go_simp
          all_goals with_reducible rfl
        (try simp only [Act.put, List.setIfInBounds_toArray, List.set_cons_zero, List.set_cons_succ])
        refine wpAnyH_take (i := 4) (v := ?_) (at_ rfl) (by kernel_rfl) (by kernel_rfl) (by kernel_rfl) (fun _ _ _ h => h) (Or.inl ⟨by rfl, ?_⟩) (by assumption) ?_
        rotate_left 1
        · intro wq hSw
          (try dsimp only at hSw)
          go_simp
          all_goals with_reducible rfl
        (try simp only [Act.put, List.setIfInBounds_toArray, List.set_cons_zero, List.set_cons_succ])
        refine wpAnyH_take (i := 5) (v := ?_) (at_ rfl) (by kernel_rfl) (by kernel_rfl) (by kernel_rfl) (fun _ _ _ h => h) (Or.inl ⟨by rfl, ?_⟩) (by assumption) ?_
        rotate_left 1
        · intro wq hSw
          (try dsimp only at hSw)
          go_simp
          all_goals with_reducible rfl
        (try simp only [Act.put, List.setIfInBounds_toArray, List.set_cons_zero, List.set_cons_succ])
        refine wpAnyH_take (i := 6) (v := ?_) (at_ rfl) (by kernel_rfl) (by kernel_rfl) (by kernel_rfl) (fun _ _ _ h => h) (Or.inl ⟨by rfl, ?_⟩) (by assumption) ?_
        rotate_left 1
        · intro wq hSw
          (try dsimp only at hSw)
          go_simp
          all_goals with_reducible rfl
        (try simp only [Act.put, List.setIfInBounds_toArray, List.set_cons_zero, List.set_cons_succ])
        refine wpAnyH_ready (rs := [7]) (by kernel_rfl) (by simp) ?_
        refine AllReadyH.cons (at_ rfl) (fun K hK => ?_) AllReadyH.nil
        go_simp
        go_at_call 73
        refine (rat_any A1 y.f1.length c1 y.f1 h.f0 _ rfl (Kd.C_below G1.out (below_step HB5.out (by repeat (first | exact HB56.out | refine below_drew ?_)))) l1 hsy1).mono ?_
        rintro e w7 ⟨rfl, hB⟩
        rw [← HFF.out]
        have HB7 : Aside0 (Below w5.heap.size w5 w7) := ⟨below_step (by repeat (first | exact HB56.out | refine below_drew ?_)) hB⟩
        clear hB
        refine hK.out _ _ ?_ (fun hHeld2 => ?_)
        · exact HS5.out _ HB7.out
        clear hK K
        (try simp only [Act.put, List.setIfInBounds_toArray, List.set_cons_zero, List.set_cons_succ])
        refine wpAnyH_take (i := 8) (v := ?_) (at_ rfl) (by kernel_rfl) (by kernel_rfl) (by kernel_rfl) (fun _ _ _ h => h) (Or.inl ⟨by rfl, ?_⟩) (by assumption) ?_
        rotate_left 1
        · intro wq hSw
          (try dsimp only at hSw)
          go_simp
          all_goals with_reducible rfl
        (try simp only [Act.put, List.setIfInBounds_toArray, List.set_cons_zero, List.set_cons_succ])
        refine wpAnyH_take (i := 9) (v := ?_) (at_ rfl) (by kernel_rfl) (by kernel_rfl) (by kernel_rfl) (fun _ _ _ h => h) (Or.inl ⟨by rfl, ?_⟩) (by assumption) ?_
        rotate_left 1
        · intro wq hSw
          (try dsimp only at hSw)
          go_simp
          all_goals with_reducible rfl
        (try simp only [Act.put, List.setIfInBounds_toArray, List.set_cons_zero, List.set_cons_succ])
        refine wpAnyH_take (i := 10) (v := ?_) (at_ rfl) (by kernel_rfl) (by kernel_rfl) (by kernel_rfl) (fun _ _ _ h => h) (Or.inl ⟨by rfl, ?_⟩) (by assumption) ?_
        rotate_left 1
        · intro wq hSw
          (try dsimp only at hSw)
          go_simp
          all_goals with_reducible rfl
        (try simp only [Act.put, List.setIfInBounds_toArray, List.set_cons_zero, List.set_cons_succ])
        refine wpAnyH_take (i := 11) (v := ?_) (at_ rfl) (by kernel_rfl) (by kernel_rfl) (by kernel_rfl) (fun _ _ _ h => h) (Or.inl ⟨by rfl, ?_⟩) (by assumption) ?_
        rotate_left 1
        · intro wq hSw
          (try dsimp only at hSw)
          go_simp
          all_goals with_reducible rfl
        (try simp only [Act.put, List.setIfInBounds_toArray, List.set_cons_zero, List.set_cons_succ])
        refine wpAnyH_take (i := 12) (v := ?_) (at_ rfl) (by kernel_rfl) (by kernel_rfl) (by kernel_rfl) (fun _ _ _ h => h) (Or.inl ⟨by rfl, ?_⟩) (by assumption) ?_
        rotate_left 1
        · intro wq hSw
          (try dsimp only at hSw)
          go_simp
          all_goals with_reducible rfl
        (try simp only [Act.put, List.setIfInBounds_toArray, List.set_cons_zero, List.set_cons_succ])
        refine wpAnyH_take (i := 13) (v := undef) (at_ rfl) (by kernel_rfl) (by kernel_rfl) (by kernel_rfl) (fun _ _ _ h => h) (Or.inr ⟨by rfl, rfl⟩) (by assumption) ?_
        (try simp only [Act.put, List.setIfInBounds_toArray, List.set_cons_zero, List.set_cons_succ])
        refine wpAnyH_take (i := 14) (v := undef) (at_ rfl) (by kernel_rfl) (by kernel_rfl) (by kernel_rfl) (fun _ _ _ h => h) (Or.inr ⟨by rfl, rfl⟩) (by assumption) ?_
        (try simp only [Act.put, List.setIfInBounds_toArray, List.set_cons_zero, List.set_cons_succ])
        refine wpAnyH_take (i := 15) (v := undef) (at_ rfl) (by kernel_rfl) (by kernel_rfl) (by kernel_rfl) (fun _ _ _ h => h) (Or.inr ⟨by rfl, rfl⟩) (by assumption) ?_
        (try simp only [Act.put, List.setIfInBounds_toArray, List.set_cons_zero, List.set_cons_succ])
        refine wpAnyH_take (i := 16) (v := undef) (at_ rfl) (by kernel_rfl) (by kernel_rfl) (by kernel_rfl) (fun _ _ _ h => h) (Or.inr ⟨by rfl, rfl⟩) (by assumption) ?_
        (try simp only [Act.put, List.setIfInBounds_toArray, List.set_cons_zero, List.set_cons_succ])
        refine wpAnyH_take (i := 17) (v := undef) (at_ rfl) (by kernel_rfl) (by kernel_rfl) (by kernel_rfl) (fun _ _ _ h => h) (Or.inr ⟨by rfl, rfl⟩) (by assumption) ?_
        (try simp only [Act.put, List.setIfInBounds_toArray, List.set_cons_zero, List.set_cons_succ])
        refine wpAnyH_take (i := 18) (v := undef) (at_ rfl) (by kernel_rfl) (by kernel_rfl) (by kernel_rfl) (fun _ _ _ h => h) (Or.inr ⟨by rfl, rfl⟩) (by assumption) ?_
        (try simp only [Act.put, List.setIfInBounds_toArray, List.set_cons_zero, List.set_cons_succ])
        refine wpAnyH_take (i := 19) (v := undef) (at_ rfl) (by kernel_rfl) (by kernel_rfl) (by kernel_rfl) (fun _ _ _ h => h) (Or.inr ⟨by rfl, rfl⟩) (by assumption) ?_
        (try simp only [Act.put, List.setIfInBounds_toArray, List.set_cons_zero, List.set_cons_succ])
        refine wpAnyH_take (i := 20) (v := undef) (at_ rfl) (by kernel_rfl) (by kernel_rfl) (by kernel_rfl) (fun _ _ _ h => h) (Or.inr ⟨by rfl, rfl⟩) (by assumption) ?_
        (try simp only [Act.put, List.setIfInBounds_toArray, List.set_cons_zero, List.set_cons_succ])
        refine wpAnyH_take (i := 21) (v := undef) (at_ rfl) (by kernel_rfl) (by kernel_rfl) (by kernel_rfl) (fun _ _ _ h => h) (Or.inr ⟨by rfl, rfl⟩) (by assumption) ?_
        (try simp only [Act.put, List.setIfInBounds_toArray, List.set_cons_zero, List.set_cons_succ])
        refine wpAnyH_take (i := 22) (v := undef) (at_ rfl) (by kernel_rfl) (by kernel_rfl) (by kernel_rfl) (fun _ _ _ h => h) (Or.inr ⟨by rfl, rfl⟩) (by assumption) ?_
        (try simp only [Act.put, List.setIfInBounds_toArray, List.set_cons_zero, List.set_cons_succ])
        refine wpAnyH_take (i := 23) (v := undef) (at_ rfl) (by kernel_rfl) (by kernel_rfl) (by kernel_rfl) (fun _ _ _ h => h) (Or.inr ⟨by rfl, rfl⟩) (by assumption) ?_
        (try simp only [Act.put, List.setIfInBounds_toArray, List.set_cons_zero, List.set_cons_succ])
        refine wpAnyH_take (i := 24) (v := undef) (at_ rfl) (by kernel_rfl) (by kernel_rfl) (by kernel_rfl) (fun _ _ _ h => h) (Or.inr ⟨by rfl, rfl⟩) (by assumption) ?_
        (try simp only [Act.put, List.setIfInBounds_toArray, List.set_cons_zero, List.set_cons_succ])
        refine wpAnyH_take (i := 25) (v := ?_) (at_ rfl) (by kernel_rfl) (by kernel_rfl) (by kernel_rfl) (fun _ _ _ h => h) (Or.inl ⟨by rfl, ?_⟩) (by assumption) ?_
        rotate_left 1
        · intro wq hSw
          (try dsimp only at hSw)
          go_simp
          all_goals with_reducible rfl
        (try simp only [Act.put, List.setIfInBounds_toArray, List.set_cons_zero, List.set_cons_succ])
        refine wpAnyH_take (i := 26) (v := ?_) (at_ rfl) (by kernel_rfl) (by kernel_rfl) (by kernel_rfl) (fun _ _ _ h => h) (Or.inl ⟨by rfl, ?_⟩) (by assumption) ?_
        rotate_left 1
        · intro wq hSw
          (try dsimp only at hSw)
          go_simp
          all_goals with_reducible rfl
        (try simp only [Act.put, List.setIfInBounds_toArray, List.set_cons_zero, List.set_cons_succ])
        refine wpAnyH_done (by kernel_rfl) ?_ _
        go_wp2_with fail
        go_meet
        case rel => exact ⟨by rw [ea.out, e2.out]; rfl, HB7⟩
      · obtain ⟨bd, g', rfl, hg2, r0, r1, r2⟩ := hint_at G2.out q hq
        rw [hg] at hg2
        obtain rfl := Option.some.inj hg2
        replace e2 := Aside0.mk (And.intro e2 e3)
        have i0 : (0 : Int) ≤ (q : Int) := by omega
        have i1 : (q : Int) < (y.f2.length : Int) := by omega
        have i2 : decide ((0 : Int) ≤ (q : Int)) = true := decide_eq_true i0
        have HS6 : Aside0 (∀ w', Below w5.heap.size w5 w' → ((w'.cell? ⟨(ad.add (b * 3)).block, (ad.add (b * 3)).off + 1, none⟩ = some (.slice A1 y.f1.length c1) ∧ w'.cell? ⟨(ad.add (b * 3)).block, (ad.add (b * 3)).off + 2, none⟩ = some (.slice (some bd) y.f2.length c2) ∧ w'.cell? ⟨gb, 0, none⟩ = some (.int .i64 h.f0) ∧ w'.cell? ⟨gb, 2, none⟩ = some (.int .i64 h.f2)) ∧ w'.cell? ⟨(bd.add (q * 3)).block, (bd.add (q * 3)).off + 2, none⟩ = some (.int .i64 g0.f2))) := ⟨fun w' hb => by
          obtain ⟨a1, a2, a3, a4⟩ := HS5.out _ hb
          exact ⟨⟨a1, a2, a3, a4⟩, cell_below (below_step HB5.out hb) r2⟩⟩
        clear HT2 HSTAY e3 hg hg2 r0 r1 r2
        go_region_held3 (fun w' => ((w'.cell? ⟨(ad.add (b * 3)).block, (ad.add (b * 3)).off + 1, none⟩ = some (.slice A1 y.f1.length c1) ∧ w'.cell? ⟨(ad.add (b * 3)).block, (ad.add (b * 3)).off + 2, none⟩ = some (.slice (some bd) y.f2.length c2) ∧ w'.cell? ⟨gb, 0, none⟩ = some (.int .i64 h.f0) ∧ w'.cell? ⟨gb, 2, none⟩ = some (.int .i64 h.f2)) ∧ w'.cell? ⟨(bd.add (q * 3)).block, (bd.add (q * 3)).off + 2, none⟩ = some (.int .i64 g0.f2))) (exact HS6.out _ (by repeat (first | exact HB56.out | exact HB7.out | refine below_drew ?_))) (first | (go_at_call 73; refine (rat_any A1 y.f1.length c1 y.f1 h.f0 _ rfl (Kd.C_below G1.out (below_step HB5.out (by repeat (first | exact HB56.out | refine below_drew ?_)))) l1 hsy1).mono ?_; rintro e w7 ⟨rfl, hB⟩; rw [← HFF.out]; have HB7 : Aside0 (Below w5.heap.size w5 w7) := ⟨below_step (by repeat (first | exact HB56.out | refine below_drew ?_)) hB⟩; clear hB) | fail)
        all_goals
          go_wp2_with fail
          go_meet
          case rel => exact ⟨by rw [ea.out, e2.out.1, e2.out.2]; rfl, HB7⟩
    · replace ea := Aside0.mk ea
      have i2 : decide ((0 : Int) ≤ (qa : Int)) = true := decide_eq_true (by omega)
      clear HT2 HSTAY
      refine wp_region_held_drew (S := (fun w' : World => (w'.cell? ⟨(ad.add (b * 3)).block, (ad.add (b * 3)).off + 1, none⟩ = some (.slice A1 y.f1.length c1) ∧ w'.cell? ⟨(ad.add (b * 3)).block, (ad.add (b * 3)).off + 2, none⟩ = some (.slice A2 y.f2.length c2) ∧ w'.cell? ⟨gb, 0, none⟩ = some (.int .i64 h.f0) ∧ w'.cell? ⟨gb, 2, none⟩ = some (.int .i64 h.f2)))) (by kernel_rfl) ?_ (fun hHeld => ?_)
      · exact HS5.out _ (below_drew HB56.out)
      refine wpAnyH_take (i := 0) (v := ?_) (at_ rfl) (by kernel_rfl) (by kernel_rfl) (by kernel_rfl) (fun _ _ _ h => h) (Or.inl ⟨by rfl, ?_⟩) (by assumption) ?_
      rotate_left 1
      · intro wq hSw
        (try dsimp only at hSw)
        go_simp
        all_goals with_reducible rfl
      (try simp only [Act.put, List.setIfInBounds_toArray, List.set_cons_zero, List.set_cons_succ])
      refine wpAnyH_take (i := 1) (v := ?_) (at_ rfl) (by kernel_rfl) (by kernel_rfl) (by kernel_rfl) (fun _ _ _ h => h) (Or.inl ⟨by rfl, ?_⟩) (by assumption) ?_
      rotate_left 1
      · intro wq hSw
        (try dsimp only at hSw)
        go_simp
        all_goals with_reducible rfl
      (try simp only [Act.put, List.setIfInBounds_toArray, List.set_cons_zero, List.set_cons_succ])
      refine wpAnyH_take (i := 2) (v := ?_) (at_ rfl) (by kernel_rfl) (by kernel_rfl) (by kernel_rfl) (fun _ _ _ h => h) (Or.inl ⟨by rfl, ?_⟩) (by assumption) ?_
      rotate_left 1
      · intro wq hSw
        (try dsimp only at hSw)
        go_simp
        all_goals with_reducible rfl
      (try simp only [Act.put, List.setIfInBounds_toArray, List.set_cons_zero, List.set_cons_succ])
      refine wpAnyH_take (i := 3) (v := ?_) (at_ rfl) (by kernel_rfl) (by kernel_rfl) (by kernel_rfl) (fun _ _ _ h => h) (Or.inl ⟨by rfl, ?_⟩) (by assumption) ?_
      rotate_left 1
      · intro wq hSw
        (try dsimp only at hSw)
        go_simp
        all_goals with_reducible rfl
      (try simp only [Act.put, List.setIfInBounds_toArray, List.set_cons_zero, List.set_cons_succ])
      refine wpAnyH_take (i := 4) (v := ?_) (at_ rfl) (by kernel_rfl) (by kernel_rfl) (by kernel_rfl) (fun _ _ _ h => h) (Or.inl ⟨by rfl, ?_⟩) (by assumption) ?_
      rotate_left 1
      · intro wq hSw
        (try dsimp only at hSw)
        go_simp
        all_goals with_reducible rfl
      (try simp only [Act.put, List.setIfInBounds_toArray, List.set_cons_zero, List.set_cons_succ])
      refine wpAnyH_take (i := 5) (v := ?_) (at_ rfl) (by kernel_rfl) (by kernel_rfl) (by kernel_rfl) (fun _ _ _ h => h) (Or.inl ⟨by rfl, ?_⟩) (by assumption) ?_
      rotate_left 1
      · intro wq hSw
        (try dsimp only at hSw)
        go_simp
        all_goals with_reducible rfl
      (try simp only [Act.put, List.setIfInBounds_toArray, List.set_cons_zero, List.set_cons_succ])
      refine wpAnyH_take (i := 6) (v := ?_) (at_ rfl) (by kernel_rfl) (by kernel_rfl) (by kernel_rfl) (fun _ _ _ h => h) (Or.inl ⟨by rfl, ?_⟩) (by assumption) ?_
      rotate_left 1
      · intro wq hSw
        (try dsimp only at hSw)
        go_simp
        all_goals with_reducible rfl
      (try simp only [Act.put, List.setIfInBounds_toArray, List.set_cons_zero, List.set_cons_succ])
      refine wpAnyH_ready (rs := [7]) (by kernel_rfl) (by simp) ?_
      refine AllReadyH.cons (at_ rfl) (fun K hK => ?_) AllReadyH.nil
      go_simp
      go_at_call 73
      refine (rat_any A1 y.f1.length c1 y.f1 h.f0 _ rfl (Kd.C_below G1.out (below_step HB5.out (by repeat (first | exact HB56.out | refine below_drew ?_)))) l1 hsy1).mono ?_
      rintro e w7 ⟨rfl, hB⟩
      rw [← HFF.out]
      have HB7 : Aside0 (Below w5.heap.size w5 w7) := ⟨below_step (by repeat (first | exact HB56.out | refine below_drew ?_)) hB⟩
      clear hB
      refine hK.out _ _ ?_ (fun hHeld2 => ?_)
      · exact HS5.out _ HB7.out
      clear hK K
      (try simp only [Act.put, List.setIfInBounds_toArray, List.set_cons_zero, List.set_cons_succ])
      refine wpAnyH_take (i := 8) (v := ?_) (at_ rfl) (by kernel_rfl) (by kernel_rfl) (by kernel_rfl) (fun _ _ _ h => h) (Or.inl ⟨by rfl, ?_⟩) (by assumption) ?_
      rotate_left 1
      · intro wq hSw
        (try dsimp only at hSw)
        go_simp
        all_goals with_reducible rfl
      (try simp only [Act.put, List.setIfInBounds_toArray, List.set_cons_zero, List.set_cons_succ])
      refine wpAnyH_take (i := 9) (v := ?_) (at_ rfl) (by kernel_rfl) (by kernel_rfl) (by kernel_rfl) (fun _ _ _ h => h) (Or.inl ⟨by rfl, ?_⟩) (by assumption) ?_
      rotate_left 1
      · intro wq hSw
        (try dsimp only at hSw)
        go_simp
        all_goals with_reducible rfl
      (try simp only [Act.put, List.setIfInBounds_toArray, List.set_cons_zero, List.set_cons_succ])
      refine wpAnyH_take (i := 10) (v := undef) (at_ rfl) (by kernel_rfl) (by kernel_rfl) (by kernel_rfl) (fun _ _ _ h => h) (Or.inr ⟨by rfl, rfl⟩) (by assumption) ?_
      (try simp only [Act.put, List.setIfInBounds_toArray, List.set_cons_zero, List.set_cons_succ])
      refine wpAnyH_take (i := 11) (v := undef) (at_ rfl) (by kernel_rfl) (by kernel_rfl) (by kernel_rfl) (fun _ _ _ h => h) (Or.inr ⟨by rfl, rfl⟩) (by assumption) ?_
      (try simp only [Act.put, List.setIfInBounds_toArray, List.set_cons_zero, List.set_cons_succ])
      refine wpAnyH_take (i := 12) (v := undef) (at_ rfl) (by kernel_rfl) (by kernel_rfl) (by kernel_rfl) (fun _ _ _ h => h) (Or.inr ⟨by rfl, rfl⟩) (by assumption) ?_
      (try simp only [Act.put, List.setIfInBounds_toArray, List.set_cons_zero, List.set_cons_succ])
      refine wpAnyH_take (i := 13) (v := undef) (at_ rfl) (by kernel_rfl) (by kernel_rfl) (by kernel_rfl) (fun _ _ _ h => h) (Or.inr ⟨by rfl, rfl⟩) (by assumption) ?_
      (try simp only [Act.put, List.setIfInBounds_toArray, List.set_cons_zero, List.set_cons_succ])
      refine wpAnyH_take (i := 14) (v := undef) (at_ rfl) (by kernel_rfl) (by kernel_rfl) (by kernel_rfl) (fun _ _ _ h => h) (Or.inr ⟨by rfl, rfl⟩) (by assumption) ?_
      (try simp only [Act.put, List.setIfInBounds_toArray, List.set_cons_zero, List.set_cons_succ])
      refine wpAnyH_take (i := 15) (v := undef) (at_ rfl) (by kernel_rfl) (by kernel_rfl) (by kernel_rfl) (fun _ _ _ h => h) (Or.inr ⟨by rfl, rfl⟩) (by assumption) ?_
      (try simp only [Act.put, List.setIfInBounds_toArray, List.set_cons_zero, List.set_cons_succ])
      refine wpAnyH_take (i := 16) (v := undef) (at_ rfl) (by kernel_rfl) (by kernel_rfl) (by kernel_rfl) (fun _ _ _ h => h) (Or.inr ⟨by rfl, rfl⟩) (by assumption) ?_
      (try simp only [Act.put, List.setIfInBounds_toArray, List.set_cons_zero, List.set_cons_succ])
      refine wpAnyH_take (i := 17) (v := undef) (at_ rfl) (by kernel_rfl) (by kernel_rfl) (by kernel_rfl) (fun _ _ _ h => h) (Or.inr ⟨by rfl, rfl⟩) (by assumption) ?_
      (try simp only [Act.put, List.setIfInBounds_toArray, List.set_cons_zero, List.set_cons_succ])
      refine wpAnyH_take (i := 18) (v := undef) (at_ rfl) (by kernel_rfl) (by kernel_rfl) (by kernel_rfl) (fun _ _ _ h => h) (Or.inr ⟨by rfl, rfl⟩) (by assumption) ?_
      (try simp only [Act.put, List.setIfInBounds_toArray, List.set_cons_zero, List.set_cons_succ])
      refine wpAnyH_take (i := 19) (v := undef) (at_ rfl) (by kernel_rfl) (by kernel_rfl) (by kernel_rfl) (fun _ _ _ h => h) (Or.inr ⟨by rfl, rfl⟩) (by assumption) ?_
      (try simp only [Act.put, List.setIfInBounds_toArray, List.set_cons_zero, List.set_cons_succ])
      refine wpAnyH_take (i := 20) (v := undef) (at_ rfl) (by kernel_rfl) (by kernel_rfl) (by kernel_rfl) (fun _ _ _ h => h) (Or.inr ⟨by rfl, rfl⟩) (by assumption) ?_
      (try simp only [Act.put, List.setIfInBounds_toArray, List.set_cons_zero, List.set_cons_succ])
      refine wpAnyH_take (i := 21) (v := undef) (at_ rfl) (by kernel_rfl) (by kernel_rfl) (by kernel_rfl) (fun _ _ _ h => h) (Or.inr ⟨by rfl, rfl⟩) (by assumption) ?_
      (try simp only [Act.put, List.setIfInBounds_toArray, List.set_cons_zero, List.set_cons_succ])
      refine wpAnyH_take (i := 22) (v := undef) (at_ rfl) (by kernel_rfl) (by kernel_rfl) (by kernel_rfl) (fun _ _ _ h => h) (Or.inr ⟨by rfl, rfl⟩) (by assumption) ?_
      (try simp only [Act.put, List.setIfInBounds_toArray, List.set_cons_zero, List.set_cons_succ])
      refine wpAnyH_take (i := 23) (v := undef) (at_ rfl) (by kernel_rfl) (by kernel_rfl) (by kernel_rfl) (fun _ _ _ h => h) (Or.inr ⟨by rfl, rfl⟩) (by assumption) ?_
      (try simp only [Act.put, List.setIfInBounds_toArray, List.set_cons_zero, List.set_cons_succ])
      refine wpAnyH_take (i := 24) (v := undef) (at_ rfl) (by kernel_rfl) (by kernel_rfl) (by kernel_rfl) (fun _ _ _ h => h) (Or.inr ⟨by rfl, rfl⟩) (by assumption) ?_
      (try simp only [Act.put, List.setIfInBounds_toArray, List.set_cons_zero, List.set_cons_succ])
      refine wpAnyH_take (i := 25) (v := undef) (at_ rfl) (by kernel_rfl) (by kernel_rfl) (by kernel_rfl) (fun _ _ _ h => h) (Or.inr ⟨by rfl, rfl⟩) (by assumption) ?_
      (try simp only [Act.put, List.setIfInBounds_toArray, List.set_cons_zero, List.set_cons_succ])
      refine wpAnyH_take (i := 26) (v := ?_) (at_ rfl) (by kernel_rfl) (by kernel_rfl) (by kernel_rfl) (fun _ _ _ h => h) (Or.inl ⟨by rfl, ?_⟩) (by assumption) ?_
      rotate_left 1
      · intro wq hSw
        (try dsimp only at hSw)
        go_simp
        all_goals with_reducible rfl
      (try simp only [Act.put, List.setIfInBounds_toArray, List.set_cons_zero, List.set_cons_succ])
      refine wpAnyH_done (by kernel_rfl) ?_ _
      go_wp2_with fail
      go_meet
      case rel => exact ⟨by rw [ea.out]; rfl, HB7⟩
  case rest =>
  obtain ⟨rfl, hcut⟩ := hcut
  obtain ⟨w7, hw7⟩ : ∃ W, W = wc := ⟨_, rfl⟩
  rw [← hw7] at hcut ⊢
  have HB7 := Aside0.mk (below_step HB5.out hcut.out)
  have HQ7 := Aside0.mk (blk_below HQ5.out hcut.out)
  have HO7 := Aside0.mk (HO5.out.below hcut.out)
  have HS7 : Aside0 (w4.heap.size ≤ w7.heap.size) := ⟨Nat.le_trans HWS.out hcut.out.size⟩
  clear hw7 hcut HB5 HQ5 HO5 HWS HB56 HS5
  obtain ⟨st, hst⟩ : ∃ b, b = (atB y.f1 h.f0 || (atB y.f2 h.f0 && decide (h.f2 ≤ (lookL y.f2 h.f0).f2))) := ⟨_, rfl⟩
  rw [← hst]
  have HTF2 : Aside0 (tellF l b h = if st = true then (true, l) else if (!atB y.f2 h.f0 && decide (4000 ≤ y.f2.length)) = true then (false, l) else (true, l.set b ⟨y.f0, y.f1, putL y.f2 h⟩)) := ⟨by
    rw [HTF.out, hst]
    cases atB y.f1 h.f0 <;> simp⟩
  clear hst HTF HSTAY HFF
  cases st with
  | true =>
    have HV3 : Aside0 (tellG l b h = (l, 0)) := ⟨by rw [HV2.out, HTF2.out]; rfl⟩
    have HC7 := Aside0.mk HO7.out.C
    clear HV2 HTF2
    go_wp2_with fail
    go_returns
    exact ⟨some ⟨g, 0, none⟩, cap, by rw [HV3.out]; rfl, by rw [HV3.out]; exact hcap, by rw [HV3.out]; exact HC7.out, HB7.out⟩
  | false =>
  obtain ⟨_, _, t2⟩ := HSP.out _ HB7.out
  have HLIM : Aside0 ((decide (t < 0) = true ∧ 4000 ≤ y.f2.length ∧ tellG l b h = ([], 2)) ∨ ((decide (t < 0) = false ∨ (decide (t < 0) = true ∧ ¬ 4000 ≤ y.f2.length)) ∧ tellG l b h = (l.set b ⟨y.f0, y.f1, putL y.f2 h⟩, 0))) := ⟨by
    rw [HV2.out, HTF2.out]
    rcases HT2.out with ⟨e1, e2, _⟩ | ⟨q, g0, e1, _, _, e2, _⟩
    · have d : decide (t < 0) = true := decide_eq_true (by omega)
      by_cases c : 4000 ≤ y.f2.length
      · left; exact ⟨d, c, by rw [e2, decide_eq_true c]; rfl⟩
      · right; exact ⟨.inr ⟨d, c⟩, by rw [e2, decide_eq_false c]; rfl⟩
    · right; exact ⟨.inl (decide_eq_false (by omega)), by rw [e2]; rfl⟩⟩
  clear HV2 HTF2 HT2
  rcases HLIM.out with ⟨d1, d2, hv⟩ | ⟨d1, hv⟩
  · replace hv := Aside0.mk hv
    have d3 : decide ((4000 : Int) ≤ (y.f2.length : Int)) = true := decide_eq_true (by omega)
    clear HLIM d2
    go_wp2_with fail
    go_returns
    exact ⟨none, 0, by rw [hv.out]; rfl, by rw [hv.out]; exact Nat.le_refl _, by rw [hv.out]; exact Kd.C_nil _ _, HB7.out⟩
  replace hv := Aside0.mk hv
  clear HLIM
  go_upto_region 11 with fail
  go_cut [93] (fun u93 wx => u93 = .bool false ∧ wx = w7)
  case first =>
    rcases d1 with d1 | ⟨d1, d2⟩
    · go_wp2_with fail
      go_meet
      case rel => exact ⟨by first | rfl | simp [d1], by first | rfl | trivial⟩
    · have d3 : decide ((4000 : Int) ≤ (y.f2.length : Int)) = false := decide_eq_false (by omega)
      clear d2
      go_wp2_with fail
      go_meet
      case rel => exact ⟨by first | rfl | simp [d3], by first | rfl | trivial⟩
  case rest =>
  obtain ⟨rfl, hw8⟩ := hcut
  rw [hw8]
  clear hw8 d1 t2
  obtain ⟨A1', c1', A2', c2', q0, q1, q2, f0, f1, f2, r1, r2, hc1', hc2'⟩ := HO7.out.cells HY.out
  have HCR := Aside0.mk (Kd.R_reads' r2).2.2
  clear r1 r2
  obtain ⟨n0, n1, n2, _, _, _⟩ := blk3 HQ7.out
  obtain ⟨l3, hl3⟩ : ∃ l2, l2 = l.set b ⟨y.f0, y.f1, putL y.f2 h⟩ := ⟨_, rfl⟩
  rw [← hl3] at hv
  have HL : Aside0 (l3.length = l.length) := ⟨by rw [hl3, List.length_set]⟩
  have HL3 := Aside0.mk hl3
  clear hl3
  go_upto_region 13 with fail
  go_cut [102] (fun u102 wx => Aside0 (OwnR wx w4.heap.size g cap l3) ∧ Aside0 (Below w.heap.size w wx))
  case first =>
    go_region_with (first | (go_at_call 75; refine (rwith_any A2' y.f2.length c2' y.f2 h _ rfl (Kd.C_below HCR.out (below_drew (Below.refl _ _))) hc2' hsy2 HSS.out).mono ?_; rintro e w9 ⟨v, rfl, hF, hB⟩; obtain ⟨U2, cu2, rfl⟩ := Kd.R_slice hF; have HO9 := Aside0.mk ((HO7.out.below (below_drew (Below.refl _ _))).below hB); have HB9 := Aside0.mk (below_step (below_drew HB7.out) hB); have HOA := Aside0.mk (HO9.out.put2 HY.out HS7.out hF); clear hF hB; obtain ⟨A1'', c1'', A2'', c2'', _, _, q2', _, _, f2', _, _, _, _⟩ := HO9.out.cells HY.out))
    all_goals
      go_wp2_with fail
      go_meet
      case rel => exact ⟨⟨by rw [HL3.out]; exact HOA.out⟩, ⟨below_set HB9.out HBG.out⟩⟩
  case rest =>
  obtain ⟨HOF, HBF⟩ := hcut
  have HCZ := Aside0.mk HOF.out.C
  clear n0 n1 n2 q0 q1 q2 f0 f1 f2
  go_wp2_with fail
  go_returns
  exact ⟨some ⟨g, 0, none⟩, cap, by rw [hv.out, HL.out]; rfl, by rw [hv.out, HL.out]; exact hcap, by rw [hv.out]; exact HCZ.out, HBF.out⟩
end Go.Proofs.Ytjnceoohlcchnaa.Print
