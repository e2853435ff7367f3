/- Searches and routes: contracts, whatever the input. -/
import Derived.Test.YtjnceoohlcchnaaRF
import Derived.Test.YtjnceoohlcchnaaRE
import Derived.Test.YtjnceoohlcchnaaRD
set_option linter.unusedVariables false
set_option linter.unusedSimpArgs false
/-! A search. -/
namespace Go.Proofs.Ytjnceoohlcchnaa.Print
open Go Go.RowKit Go.Deep Go.Proofs.YtjnceoohlcchnaaW.PrintWords Go.Proofs.YtjnceoohlcchnaaW.PrintLast Go.Proofs.YtjnceoohlcchnaaW.PrintMore

theorem posts_own (base g cap gr : Nat) (l : List S36) (w : World) (hO : Own w base g cap l) (hgr : gr < base) (hbs : base ≤ w.heap.size) (hl : l.length ≤ 1000000) :
    Calls Try.prog 59 #[.slice (some ⟨g, 0, none⟩) l.length cap] w fun e w' => ∃ A2 c2, e = .returned (.slice A2 l.length c2) ∧ Kd.N k36 36 w' w.heap.size (fun k => k ≠ gr) (.slice A2 l.length c2) l ∧ Below w.heap.size w w' := by
  have hc := (Kd.R_reads' hO).2.1
  have hF : Kd.F k81 w (fun k => base ≤ k) (some ⟨g, 0, none⟩) l.length (asPosts l) := fun W' hW => C_posts ((Kd.R_F (Kd.R_mono (Kd.R_bound hO) (fun k hk => hk.2.1))) W' hW)
  rw [← asPosts_len l] at hF hc ⊢
  refine (find_mapOf_posts.calls (l.length + 1) (fun k => base ≤ k) (some ⟨g, 0, none⟩) cap (asPosts l) l w (Kd.V_mk hc hF) (posts_f l hl)).mono ?_
  rintro e w' ⟨v, rfl, hN, hB⟩
  obtain ⟨A2, c2, rfl⟩ := Kd.N_slice hN
  rw [asPosts_len]
  exact ⟨A2, c2, rfl, Kd.N_mono hN (fun k hk => by rcases hk with hk | hk <;> omega), hB⟩
theorem N_store3 {w : World} {base : Nat} {gr : Nat} {v : Value} {l : List S36} (h : Kd.N k36 36 w base (fun k => k ≠ gr) v l) (a b c : Value) :
    Kd.N k36 36 (((w.setCell ⟨gr, 0, none⟩ a).setCell ⟨gr, 1, none⟩ b).setCell ⟨gr, 2, none⟩ c) base (fun k => k ≠ gr) v l :=
  Kd.N_far (p := ⟨gr, 2, none⟩) (Kd.N_far (p := ⟨gr, 1, none⟩) (Kd.N_far (p := ⟨gr, 0, none⟩) h (fun _ hk => hk) a) (fun _ hk => hk) b) (fun _ hk => hk) c
theorem vat_short {l : List S36} {n : Int} (hv : Vat l n) (h : l.length ≤ 1000000) : Short l :=
  ⟨h, fun x hx => ⟨Nat.le_trans (hv.ok x hx).has.len (by omega), Nat.le_trans (hv.ok x hx).hints.len (by omega)⟩⟩
/-- what holds in the rounds in which places are told -/
structure TellRel (w : World) (base g cap gr gh : Nat) (l : List S36) (h : S31) (vr : Value) (ps : List Int) (j : Nat) (lk : List S36) (wr : World) : Prop where
  len : lk.length = l.length
  rest : tellsF h (ps.drop j) lk = tellsF h ps l
  own : Own wr base g cap lk
  val : Vat lk l.length
  agr : Agrees lk h
  bel : Below w.heap.size w wr
  blk : wr.heap[gr]? = some (.cells #[.int .i64 0, .int .i64 0, .int .i64 0] 31 (0, 0))
  hnt : wr.heap[gh]? = some (.cells #[.int .i64 h.f0, .int .i64 h.f1, .int .i64 h.f2] 31 (0, 0))
  row : Kd.R (Kd.int .i64) 3 wr w.heap.size (fun _ => True) vr ps
  siz : base ≤ wr.heap.size
theorem TellRel.below {w : World} {base g cap gr gh : Nat} {l : List S36} {h : S31} {vr : Value} {ps : List Int} {j : Nat} {lk : List S36} {wr w' : World} (r : TellRel w base g cap gr gh l h vr ps j lk wr) (hb : Below wr.heap.size wr w') : TellRel w base g cap gr gh l h vr ps j lk w' :=
  ⟨r.len, r.rest, r.own.below hb, r.val, r.agr, below_step r.bel hb, blk_below r.blk hb, blk_below r.hnt hb, Kd.R_below r.row hb, Nat.le_trans r.siz hb.size⟩
theorem TellRel.skip {w : World} {base g cap gr gh : Nat} {l : List S36} {h : S31} {vr : Value} {ps : List Int} {j i : Nat} {lk : List S36} {x : S36} {wr : World} (r : TellRel w base g cap gr gh l h vr ps j lk wr) (hj : ps[j]? = some (i : Int)) (hx : lk[i]? = some x) (hu : x.f0 = false) : TellRel w base g cap gr gh l h vr ps (j + 1) lk wr :=
  ⟨r.len, by
    obtain ⟨hl, e⟩ := List.getElem?_eq_some_iff.1 hj
    rw [← r.rest, List.drop_eq_getElem_cons hl, e, tellsF, postA_some hx, if_neg (by rw [hu]; simp)], r.own, r.val, r.agr, r.bel, r.blk, r.hnt, r.row, r.siz⟩
theorem tells_up {h : S31} {ps : List Int} {j i : Nat} {lk : List S36} {x : S36} (hj : ps[j]? = some (i : Int)) (hx : lk[i]? = some x) (hu : x.f0 = true) : tellsF h (ps.drop j) lk = if (tellF lk i h).1 = true then tellsF h (ps.drop (j + 1)) (tellF lk i h).2 else none := by
  obtain ⟨hl, e⟩ := List.getElem?_eq_some_iff.1 hj
  rw [List.drop_eq_getElem_cons hl, e, tellsF, postA_some hx, if_pos hu, Int.toNat_natCast]
theorem TellRel.told {w : World} {base g cap gr gh : Nat} {l : List S36} {h : S31} {vr : Value} {ps : List Int} {j i : Nat} {lk : List S36} {x : S36} {wr w' : World} (r : TellRel w base g cap gr gh l h vr ps j lk wr) (hh : HintV l.length h) (hj : ps[j]? = some (i : Int)) (hx : lk[i]? = some x) (hu : x.f0 = true) (ht : (tellF lk i h).1 = true)
    (hgr : gr ≠ g) (hgh : gh ≠ g) (hwb : w.heap.size ≤ base) (hB : Below base wr w') (hO : Own w' base g cap (tellF lk i h).2) (hk : KeepBut wr w' g none) : TellRel w base g cap gr gh l h vr ps (j + 1) (tellF lk i h).2 w' := by
  obtain ⟨cs, hc⟩ := Kd.R_typed r.own g (by simp [Value.ownBlock])
  refine ⟨(tell_len _ _ _).trans r.len, ?_, hO, vat_tell r.val hx hh hu r.agr, agrees_tell hx r.agr, r.bel.trans (hB.mono hwb), hk.blk r.blk hgr (by simp), hk.blk r.hnt hgh (by simp), ?_, Nat.le_trans r.siz hB.size⟩
  · rw [← r.rest, tells_up hj hx hu, if_pos ht]
  · exact Kd.R_mono (Kd.R_keep (Kd.R_types r.row hc (by decide)) hk (fun _ hk => hk.2)) (fun _ _ => trivial)
set_option maxRecDepth 100000 in
set_option maxHeartbeats 16000000 in
theorem Search_any (A : Option Addr) (n c : Nat) (l : List S36) (place oid : Int) (w : World) (hn : n = l.length) (hr : Kd.C k36 w A l.length l) (hc : n ≤ c) (hl : Short l) :
    Calls Try.prog 17 #[.slice A n c, .int .i64 place, .int .i64 oid] w fun e w' => ∃ A2 c2, e = .returned (.tuple #[.slice A2 (searchF l place oid).1.length c2, hintV (searchF l place oid).2.1, .int .i64 (searchF l place oid).2.2.1, .int .i64 (searchF l place oid).2.2.2]) ∧ (searchF l place oid).1.length ≤ c2 ∧ Kd.C k36 w' A2 (searchF l place oid).1.length (searchF l place oid).1 ∧ Below w.heap.size w w' := by
  subst hn
  have HR := Aside0.mk hr
  have HS := Aside0.mk hl
  have hl6 := hl.1
  clear hr hl
  have hu := Try.underlying31
  have hu2 := Try.underlying81
  have hef : ∀ (a : Act), a.eval (Operand.func 56) = .func (.func 56) #[] #[] := fun _ => rfl
  go_enter Try.func17, Try.ntmps17
  go_wp2_with fail
  go_step3
  go_wp2_with fail
  obtain ⟨gr, hgr⟩ : ∃ g, g = w.heap.size := ⟨_, rfl⟩
  obtain ⟨gp, hgp⟩ : ∃ g, g = w.heap.size + 1 := ⟨_, rfl⟩
  obtain ⟨w1, hw1⟩ : ∃ w1, w1 = (w.alloc (Obj.cells #[Value.int IntKind.i64 0, Value.int IntKind.i64 0, Value.int IntKind.i64 0] 31)).alloc (Obj.cells #[Value.int IntKind.i64 place] 3) := ⟨_, rfl⟩
  rw [← hw1, ← hgp, ← hgr]
  have HB1 : Aside0 (Below w.heap.size w w1) := ⟨by rw [hw1]; exact below_alloc (below_alloc (Below.refl _ _) _) _⟩
  have HQ1 : Aside0 (w1.heap[gr]? = some (.cells #[.int .i64 0, .int .i64 0, .int .i64 0] 31 (0, 0))) := ⟨by rw [hw1, hgr]; exact blk_alloc (heap_alloc_new _ _) _⟩
  have HP1 : Aside0 (Kd.C (Kd.int .i64) w1 (some ⟨gp, 0, none⟩) 1 [place]) := ⟨one_ints w1 place (by
    rw [hw1, hgp]
    have h := heap_alloc_new (w.alloc (Obj.cells #[Value.int IntKind.i64 0, Value.int IntKind.i64 0, Value.int IntKind.i64 0] 31)) (Obj.cells #[Value.int IntKind.i64 place] 3)
    simpa using h)⟩
  have HG : Aside0 (w.heap.size ≤ gr ∧ gr < w1.heap.size) := ⟨by rw [hw1]; simp; omega⟩
  clear hw1 hgr hgp
  obtain ⟨ok, hok⟩ : ∃ ok, ok = decide (1 ≤ oid) := ⟨_, rfl⟩
  rw [← hok]
  refine (given_any A l.length c l ok (some ⟨gp, 0, none⟩) 1 1 [place] w1 rfl (Kd.C_below HR.out HB1.out) hc HS.out rfl HP1.out (Nat.le_refl _) (by simp)).mono ?_
  rintro e w2 ⟨v, rfl, hB, hv0, hv1⟩
  have HB2 : Aside0 (Below w.heap.size w w2) := ⟨HB1.out.trans (hB.mono HB1.out.size)⟩
  have HQ2 := Aside0.mk (blk_below HQ1.out hB)
  by_cases hgc : givenC l ok [place] = 0
  rotate_left
  · have HV : Aside0 (searchF l place oid = ([], ⟨0, 0, 0⟩, 0, givenC l ok [place])) := ⟨by unfold searchF; rw [← hok, if_neg hgc]⟩
    have hv := hv1 hgc
    subst hv
    obtain ⟨gc, hgc2⟩ : ∃ gc, gc = givenC l ok [place] := ⟨_, rfl⟩
    rw [← hgc2] at hgc HV ⊢
    have dg : (gc != 0) = true := by rw [bne_iff_ne]; exact hgc
    clear hgc hgc2 hok hv0 hv1 hB
    go_wp2_with fail
    refine (no_any gc w2).mono ?_
    rintro r w3 ⟨rfl, hB⟩
    have HB3 := Aside0.mk (below_step HB2.out hB)
    have HQ3 := Aside0.mk (blk_below HQ2.out hB)
    clear hB
    obtain ⟨q0, q1, q2, f0, f1, f2⟩ := blk3 HQ3.out
    go_wp2_with fail
    simp only [Exit.noGoto]
    refine bodyPost_ret (results_tctt rfl _ _ gr 31 #[.int .i64 0, .int .i64 0, .int .i64 0] (0, 0) _ rfl (blk_store3 HQ3.out _ _ _) Try.underlying31 rfl (by kernel_rfl)) rfl ?_
    exact ⟨none, 0, by rw [HV.out]; rfl, by rw [HV.out]; exact Nat.le_refl _, by rw [HV.out]; exact Kd.C_nil _ _, below_store3 HB3.out HG.out.1 _ _ _⟩
  have HM := Aside0.mk (check_vat (given_in hgc).2.1)
  obtain ⟨b, hpb, hbl, hy⟩ := given_post hgc
  obtain ⟨y, hye⟩ : ∃ y, y = postA l place := ⟨_, rfl⟩
  have HV : Aside0 (searchF l place oid = (if y.f0 = true then
      (if (whereL l oid).2 = true then
        (if ((whereL l oid).1.f1 == place) = true then (l, (whereL l oid).1, 0, 0)
        else searchO (whereL l oid).1 (askN place (whereL l oid).1.f1 l.length 0 (foundB l oid (followL l oid place)) (followL l oid place).length) (tellsF (whereL l oid).1 (place :: followL l oid place) l))
      else ([], ⟨0, 0, 0⟩, 0, 3)) else ([], ⟨0, 0, 0⟩, 0, 1))) := ⟨by unfold searchF; rw [← hok, if_pos hgc, hye]⟩
  rw [← hye] at hy
  subst hpb
  obtain ⟨g, cap, rfl, hO, hcap, hbg, hg2⟩ := own_of (hv0 hgc) (by omega)
  rw [hgc]
  have HO := Aside0.mk hO
  have HY := Aside0.mk hy
  have HBG : Aside0 (w.heap.size ≤ g) := ⟨Nat.le_trans HB1.out.size hbg⟩
  have HBG1 : Aside0 (w1.heap.size ≤ g ∧ w1.heap.size ≤ w2.heap.size) := ⟨hbg, by omega⟩
  have HGG : Aside0 (gr ≠ g) := ⟨by have h := HG.out; omega⟩
  have db : decide (b < l.length) = true := decide_eq_true hbl
  clear hgc hok hv0 hv1 hO hy hB hg2 hye hbg
  obtain ⟨B1, d1, B2, d2, p0, p1, p2, e0, e1, e2, s1, s2, hd1, hd2⟩ := HO.out.cells HY.out
  obtain ⟨u, hu0⟩ : ∃ u, u = y.f0 := ⟨_, rfl⟩
  rw [← hu0] at p0 HV
  have HU := Aside0.mk hu0
  clear s1 s2 e0 e1 e2 hu0
  cases u with
  | false =>
    have HV2 : Aside0 (searchF l b oid = ([], ⟨0, 0, 0⟩, 0, 1)) := ⟨by rw [HV.out]; rfl⟩
    clear HV
    go_wp2_with fail
    refine (no_any 1 w2).mono ?_
    rintro r w3 ⟨rfl, hB⟩
    have HB3 := Aside0.mk (below_step HB2.out hB)
    have HQ3 := Aside0.mk (blk_below HQ2.out hB)
    clear hB p0 p1 p2
    obtain ⟨q0, q1, q2, f0, f1, f2⟩ := blk3 HQ3.out
    go_wp2_with fail
    simp only [Exit.noGoto]
    refine bodyPost_ret (results_tctt rfl _ _ gr 31 #[.int .i64 0, .int .i64 0, .int .i64 0] (0, 0) _ rfl (blk_store3 HQ3.out _ _ _) Try.underlying31 rfl (by kernel_rfl)) rfl ?_
    exact ⟨none, 0, by rw [HV2.out]; rfl, by rw [HV2.out]; exact Nat.le_refl _, by rw [HV2.out]; exact Kd.C_nil _ _, below_store3 HB3.out HG.out.1 _ _ _⟩
  | true =>
  rw [if_pos rfl] at HV
  go_wp2_with fail
  refine (where_any (some ⟨g, 0, none⟩) l.length cap l oid w2 rfl HO.out.C hcap HS.out).mono ?_
  rintro e w3 ⟨rfl, hB⟩
  have HB3 := Aside0.mk (below_step HB2.out hB)
  have HO3 := Aside0.mk (HO.out.below hB)
  have HQ3 := Aside0.mk (blk_below HQ2.out hB)
  have HS3 : Aside0 (w1.heap.size ≤ w3.heap.size) := ⟨Nat.le_trans HBG1.out.2 hB.size⟩
  clear hB p0 p1 p2
  cases his : (whereL l oid).2 with
  | false =>
    have HV2 : Aside0 (searchF l b oid = ([], ⟨0, 0, 0⟩, 0, 3)) := ⟨by rw [HV.out, his]; rfl⟩
    obtain ⟨h, hh⟩ : ∃ h, h = (whereL l oid).1 := ⟨_, rfl⟩
    rw [← hh]
    clear hh his HV
    unfold hintV
    go_wp2_with fail
    refine (no_any 3 _).mono ?_
    rintro r w4 ⟨rfl, hB⟩
    have HB4 := Aside0.mk (below_step (below_alloc HB3.out _) hB)
    have HQ4 := Aside0.mk (blk_below (blk_alloc HQ3.out _) hB)
    clear hB
    obtain ⟨q0, q1, q2, f0, f1, f2⟩ := blk3 HQ4.out
    go_wp2_with fail
    simp only [Exit.noGoto]
    refine bodyPost_ret (results_tctt rfl _ _ gr 31 #[.int .i64 0, .int .i64 0, .int .i64 0] (0, 0) _ rfl (blk_store3 HQ4.out _ _ _) Try.underlying31 rfl (by kernel_rfl)) rfl ?_
    exact ⟨none, 0, by rw [HV2.out]; rfl, by rw [HV2.out]; exact Nat.le_refl _, by rw [HV2.out]; exact Kd.C_nil _ _, below_store3 HB4.out HG.out.1 _ _ _⟩
  | true =>
  obtain ⟨a, x, ha, hx, hhas, h0, hhv⟩ := has_here HM.out his
  rw [his, if_pos rfl] at HV
  obtain ⟨h, hh⟩ : ∃ h, h = (whereL l oid).1 := ⟨_, rfl⟩
  rw [← hh] at HV ha h0 hhv hhas ⊢
  have HH := Aside0.mk (And.intro hhas hhv)
  have hal := (List.getElem?_eq_some_iff.1 hx).1
  have HA := Aside0.mk (And.intro ha h0)
  have hfa : h.f1 = (a : Int) := ha
  clear hh his hhv hhas hx ha h0
  unfold hintV
  rw [hfa]
  go_upto_region 8 with fail
  obtain ⟨w4, hw4⟩ : ∃ w4, w4 = w3.alloc (Obj.cells #[Value.int IntKind.i64 h.f0, Value.int IntKind.i64 (a : Int), Value.int IntKind.i64 h.f2] 31) := ⟨_, rfl⟩
  obtain ⟨gh, hgh⟩ : ∃ g, g = w3.heap.size := ⟨_, rfl⟩
  rw [← hw4, ← hgh]
  have HN4 : Aside0 (w4.heap[gh]? = some (.cells #[.int .i64 h.f0, .int .i64 (a : Int), .int .i64 h.f2] 31 (0, 0))) := ⟨by rw [hw4, hgh]; exact heap_alloc_new _ _⟩
  have hB34 : Below w3.heap.size w3 w4 := by rw [hw4]; exact below_alloc (Below.refl _ _) _
  have HB4 := Aside0.mk (below_step HB3.out hB34)
  have HO4 := Aside0.mk (HO3.out.below hB34)
  have HQ4 := Aside0.mk (blk_below HQ3.out hB34)
  have HS4 : Aside0 (w1.heap.size ≤ w4.heap.size) := ⟨Nat.le_trans HS3.out hB34.size⟩
  have HNG : Aside0 (gh ≠ g ∧ gh ≠ gr) := ⟨by
    have h1 := Kd.R_lt HO3.out g (by simp [Value.ownBlock])
    have h2 := blk_lt HQ3.out
    omega⟩
  have HFA := Aside0.mk hfa
  clear hw4 hgh HO3 HO hB34 hfa HQ3 HQ2
  obtain ⟨n0, n1, n2, m0, m1, m2⟩ := blk3 HN4.out
  rw [show (h.f1 == (b : Int)) = ((a : Int) == (b : Int)) from by rw [HFA.out]] at HV
  by_cases hab : a = b
  · have HV2 : Aside0 (searchF l b oid = (l, h, 0, 0)) := ⟨by rw [HV.out, if_pos (by rw [hab]; simp)]⟩
    have dab : ((a : Int) == (b : Int)) = true := by rw [beq_iff_eq]; omega
    clear HV hab
    go_upto_region 11 with fail
    go_region_held3 (fun w' => w'.cell? ⟨gh, 0, none⟩ = some (.int .i64 h.f0) ∧ w'.cell? ⟨gh, 1, none⟩ = some (.int .i64 (a : Int)) ∧ w'.cell? ⟨gh, 2, none⟩ = some (.int .i64 h.f2)) (first | exact ⟨n0, n1, n2⟩ | exact ⟨k0, k1, k2⟩ | exact ⟨j0, j1, j2⟩) (first | (go_at_call 59; refine (posts_own w1.heap.size g cap gr l _ (HO4.out.below (below_drew (Below.refl _ _))) HG.out.2 HS4.out hl6).mono ?_; rintro e w5 ⟨A5, c5, rfl, hN5, hB⟩; have HC5 := Aside0.mk hN5; have HB5 := Aside0.mk (below_step (below_drew HB4.out) hB); have HN5 := Aside0.mk (blk_below (blk_drew HN4.out) hB); have HQ5 := Aside0.mk (blk_below (blk_drew HQ4.out) hB); clear hN5 hB; obtain ⟨k0, k1, k2, _, _, _⟩ := blk3 HN5.out; obtain ⟨j0, j1, j2, _, _, _⟩ := blk3 (blk_far (p := ⟨gr, 2, none⟩) (blk_far (p := ⟨gr, 1, none⟩) (blk_far (p := ⟨gr, 0, none⟩) HN5.out HNG.out.2 (Value.int .i64 h.f0)) HNG.out.2 (Value.int .i64 (a : Int))) HNG.out.2 (Value.int .i64 h.f2)); obtain ⟨q0, q1, q2, f0, f1, f2⟩ := blk3 HQ5.out))
    all_goals
      go_wp2_with fail
      simp only [Exit.noGoto]
      refine bodyPost_ret (results_tctt rfl _ _ gr 31 #[.int .i64 h.f0, .int .i64 (a : Int), .int .i64 h.f2] (0, 0) _ rfl (blk_store3 HQ5.out _ _ _) Try.underlying31 rfl (by kernel_rfl)) rfl ?_
      exact ⟨A5, c5, by rw [HV2.out]; unfold hintV; rw [HFA.out]; rfl, by rw [HV2.out]; exact (Kd.N_reads' HC5.out).2.1, by rw [HV2.out]; exact (Kd.N_reads' (N_store3 HC5.out _ _ _)).2.2, below_store3 HB5.out HG.out.1 _ _ _⟩
  have dab : ((a : Int) == (b : Int)) = false := by rw [beq_eq_false_iff_ne]; omega
  replace HV : Aside0 (searchF l b oid = searchO h (askN b a l.length 0 (foundB l oid (followL l oid b)) (followL l oid b).length) (tellsF h ((b : Int) :: followL l oid b) l)) := ⟨by rw [HV.out, if_neg (by rw [dab]; simp), HFA.out]⟩
  clear hab
  go_wp2_with fail
  refine (follow_any (some ⟨g, 0, none⟩) cap l b oid w4 hbl HO4.out.C hcap HS.out HM.out).mono ?_
  rintro e w5 ⟨v, rfl, hR, hB⟩
  obtain ⟨U, cu, rfl⟩ := Kd.R_slice hR
  have HB5 := Aside0.mk (below_step HB4.out hB)
  have HO5 := Aside0.mk (HO4.out.below hB)
  have HQ5 := Aside0.mk (blk_below HQ4.out hB)
  have HN5 := Aside0.mk (blk_below HN4.out hB)
  have HS5 : Aside0 (w1.heap.size ≤ w5.heap.size) := ⟨Nat.le_trans HS4.out hB.size⟩
  have HR5 := Aside0.mk hR
  obtain ⟨fb, hfb⟩ : ∃ f, f = foundB l oid (followL l oid b) := ⟨_, rfl⟩
  obtain ⟨L, hL⟩ : ∃ L, L = followL l oid b := ⟨_, rfl⟩
  rw [← hfb, ← hL] at HV
  rw [← hL] at HR5
  rw [← hfb, ← hL]
  have HL := Aside0.mk hL
  clear hR hB hfb hL HO4 HQ4 HN4 HB4 HS4 n0 n1 n2 m0 m1 m2
  have hsmall : L.length ≤ 1099511627778 := by rw [HL.out]; exact steps_len _ _ _ _
  have hall : ∀ q ∈ L, ∃ j : Nat, q = (j : Int) ∧ j < l.length := by
    rw [HL.out]
    exact good_steps HM.out oid _ _ _ ⟨b, rfl, hbl⟩
  have HALL := Aside0.mk hall
  clear hall
  obtain ⟨N, hN⟩ : ∃ N, N = askN b a l.length 0 fb L.length := ⟨_, rfl⟩
  rw [← hN] at HV
  have HNN := Aside0.mk hN
  clear hN
  go_wp2_with fail
  go_step3
  go_upto_block 0 with fail
  go_cut [16, 17, 18] from 84 to 99 (fun _ u17 _ wx => u17 = .int .i64 (N : Int) ∧ wx = w5)
  case first =>
    obtain ⟨n0, n1, n2, _, _, _⟩ := blk3 HN5.out
    go_wp2_with fail
    go_loopw [84, 16, 17] (fun u84 u16 u17 wr => ∃ (i : Nat) (f : Bool) (s : Nat), u84 = .int .i64 (i : Int) ∧ u16 = .bool f ∧ u17 = .int .i64 (s : Int) ∧ i ≤ l.length ∧ s ≤ L.length + i ∧ Aside0 (N = askN b a (l.length - i) i f s) ∧ wr = w5) (fun u84 _ _ _ => l.length - (intOf u84).toNat)
    case atStart => exact ⟨0, fb, L.length, rfl, rfl, rfl, Nat.zero_le _, Nat.le_refl _, HNN, rfl⟩
    case round =>
      obtain ⟨i, f, s, rfl, rfl, rfl, hi, hs, HE, rfl⟩ := hrel
      by_cases hlt : i < l.length
      rotate_left
      · have hd : decide (i < l.length) = false := decide_eq_false hlt
        have HN1 : Aside0 (N = s) := ⟨by rw [HE.out, show l.length - i = 0 by omega]; rfl⟩
        clear HE
        go_wp2_with fail
        go_meet
        case rel => exact ⟨by rw [HN1.out], rfl⟩
      have hd : decide (i < l.length) = true := decide_eq_true hlt
      obtain ⟨m, hm⟩ : ∃ m, l.length - i = m + 1 := ⟨l.length - i - 1, by omega⟩
      have hE := HE.out
      rw [hm, askN] at hE
      have HM2 : Aside0 (l.length - (i + 1) = m) := ⟨by omega⟩
      cases f with
      | true =>
        rw [if_pos rfl] at hE
        have HN1 := Aside0.mk hE
        clear HE hE hm
        go_wp2_with fail
        go_meet
        case rel => exact ⟨by rw [HN1.out], rfl⟩
      | false =>
        rw [if_neg (by simp)] at hE
        by_cases hib : i = b
        · have eib : ((i : Int) == (b : Int)) = true := by rw [beq_iff_eq]; omega
          rw [if_pos eib] at hE
          have HN1 := Aside0.mk hE
          clear HE hE hm hib
          go_wp2_with fail
          go_roundw
          case measure => simp [intOf]; omega
          case rel => exact ⟨i + 1, false, s, by go_num, rfl, rfl, by omega, by omega, ⟨by rw [HM2.out]; exact HN1.out⟩, trivial⟩
        · have eib : ((i : Int) == (b : Int)) = false := by rw [beq_eq_false_iff_ne]; omega
          rw [if_neg (by rw [eib]; simp)] at hE
          have HN1 := Aside0.mk hE
          have hws : IntKind.i64.wrap ((s : Int) + 1) = ((s + 1 : Nat) : Int) := by rw [IntKind.wrap_i64]; omega
          clear HE hE hm hib
          go_wp2_with fail
          go_roundw
          case measure => simp [intOf]; omega
          case rel => exact ⟨i + 1, _, s + 1, by go_num, rfl, by go_num, by omega, by omega, ⟨by rw [HM2.out]; exact HN1.out⟩, trivial⟩
  case rest =>
    obtain ⟨rfl, rfl⟩ := hcut
    have HRA : Aside0 (Kd.R (Kd.int .i64) 3 (wc.alloc (Obj.cells #[Value.int IntKind.i64 (b : Int)] 3)) wc.heap.size (fun _ => True) (.slice (some ⟨wc.heap.size, 0, none⟩) 1 1) [(b : Int)]) := ⟨by
      have h2 := World.ownsRow_lit (base := wc.heap.size) (e := 3) (size := 1) wc #[.int .i64 (b : Int)] 1 (Nat.le_refl _) (by simp [maxLen]) (by simp)
      exact Kd.R_of_own (enc := Value.int .i64) (by simpa [encs] using h2) (fun _ _ => trivial)⟩
    have HRL := Aside0.mk (Kd.C_alloc (Kd.R_reads' HR5.out).2.2 (Obj.cells #[Value.int IntKind.i64 (b : Int)] 3))
    go_wp2_with (at_builtin; refine Kd.R_append_row (Value.int .i64) (0 : Int) (w0 := wc) wc.heap.size rfl (.tmp 101) (.tmp 102) 39 3 (.int .i64 0) 8 rfl Try.underlying39 info3 rfl (by decide) (.slice (some ⟨wc.heap.size, 0, none⟩) 1 1) [(b : Int)] L U L.length cu (fun _ => True) rfl rfl (fun _ _ => trivial) HRA.out HRL.out (below_alloc (Below.refl _ _) _) (by simp) (by simp; omega) ?_)
    intro v6 w6 hR6 hB6 _ _
    obtain ⟨U6, c6, rfl⟩ := Kd.R_slice hR6
    have HB6 := Aside0.mk (below_step HB5.out hB6)
    have HO6 := Aside0.mk (HO5.out.below hB6)
    have HQ6 := Aside0.mk (blk_below HQ5.out hB6)
    have HN6 := Aside0.mk (blk_below HN5.out hB6)
    have HS6 : Aside0 (w1.heap.size ≤ w6.heap.size) := ⟨Nat.le_trans HS5.out hB6.size⟩
    have HR6 := Aside0.mk hR6
    obtain ⟨ps, hps⟩ : ∃ ps, ps = (b : Int) :: L := ⟨_, rfl⟩
    rw [← hps] at HR6 HV
    first | rw [← hps] | rw [show ([(b : Int)] ++ L) = ps from hps.symm]
    have hpl : ps.length = L.length + 1 := by rw [hps]; rfl
    have HALL2 : Aside0 (∀ q ∈ ps, ∃ j : Nat, q = (j : Int) ∧ j < l.length) := ⟨by
      rw [hps]
      intro q hq
      rcases List.mem_cons.1 hq with rfl | hq
      · exact ⟨b, rfl, hbl⟩
      · exact HALL.out q hq⟩
    have HPL := Aside0.mk hpl
    have hpl6 : ps.length ≤ 1099511627779 := by omega
    clear hR6 hB6 hps HRA HRL HO5 HQ5 HN5 HS5 hpl
    go_wp2_with fail
    have hF1 : h.f1 = (a : Int) := HFA.out
    have HTR : Aside0 (TellRel w w1.heap.size g cap gr gh l h (.slice U6 ps.length c6) ps 0 l w6) := ⟨⟨rfl, rfl, HO6.out, HM.out, agrees_has HM.out HH.out.1, HB6.out, HQ6.out, by rw [hF1]; exact HN6.out, Kd.R_lower HR6.out HB5.out.size, HS6.out⟩⟩
    have hwb : w.heap.size ≤ w1.heap.size := HB1.out.size
    clear hF1 HO6 HN6 HQ6 HS6 HR6 HB6
    go_loopw [105] (fun u105 wr => ∃ (j : Nat) (lk : List S36), u105 = .int .i64 (j : Int) ∧ j ≤ ps.length ∧ Aside0 (TellRel w w1.heap.size g cap gr gh l h (.slice U6 ps.length c6) ps j lk wr)) (fun u105 _ => ps.length - (intOf u105).toNat)
    case atStart => exact ⟨0, l, rfl, Nat.zero_le _, HTR⟩
    case round =>
      obtain ⟨j, lk, rfl, hj, HT⟩ := hrel
      by_cases hlt : j < ps.length
      rotate_left
      · have hd : decide (j < ps.length) = false := decide_eq_false hlt
        have HV2 : Aside0 (searchF l b oid = (lk, h, (N : Int), 0)) := ⟨by
          have h1 := HT.out.rest
          rw [List.drop_of_length_le (by omega)] at h1
          rw [HV.out, ← h1]
          rfl⟩
        have HNB := Aside0.mk HT.out.hnt
        have HPO : Aside0 (∀ W, Below wr.heap.size wr W → Calls Try.prog 59 #[.slice (some ⟨g, 0, none⟩) l.length cap] W fun e w' => ∃ A2 c2, e = .returned (.slice A2 lk.length c2) ∧ Kd.N k36 36 w' W.heap.size (fun k => k ≠ gr) (.slice A2 lk.length c2) lk ∧ Below W.heap.size W w') := ⟨fun W hb => by
          have h1 := posts_own w1.heap.size g cap gr lk W (HT.out.own.below hb) HG.out.2 (Nat.le_trans HT.out.siz hb.size) (by rw [HT.out.len]; exact hl6)
          rw [HT.out.len] at h1
          rw [HT.out.len]
          exact h1⟩
        clear HV
        go_upto_region 28 with fail
        obtain ⟨n0, n1, n2, _, _, _⟩ := blk3 HNB.out
        go_region_held3 (fun w' => w'.cell? ⟨gh, 0, none⟩ = some (.int .i64 h.f0) ∧ w'.cell? ⟨gh, 1, none⟩ = some (.int .i64 h.f1) ∧ w'.cell? ⟨gh, 2, none⟩ = some (.int .i64 h.f2)) (first | exact ⟨n0, n1, n2⟩ | exact ⟨k0, k1, k2⟩ | exact ⟨j0, j1, j2⟩) (first | (go_at_call 59; refine (HPO.out _ (below_drew (Below.refl _ _))).mono ?_; rintro e w7 ⟨A7, c7, rfl, hN7, hB⟩; have HC7 := Aside0.mk hN7; have HT7 := Aside0.mk ((HT.out.below (below_drew (Below.refl _ _))).below hB); clear hN7 hB; obtain ⟨k0, k1, k2, _, _, _⟩ := blk3 HT7.out.hnt; obtain ⟨j0, j1, j2, _, _, _⟩ := blk3 (blk_far (p := ⟨gr, 2, none⟩) (blk_far (p := ⟨gr, 1, none⟩) (blk_far (p := ⟨gr, 0, none⟩) HT7.out.hnt HNG.out.2 (Value.int .i64 h.f0)) HNG.out.2 (Value.int .i64 h.f1)) HNG.out.2 (Value.int .i64 h.f2)); obtain ⟨q0, q1, q2, f0, f1, f2⟩ := blk3 HT7.out.blk))
        all_goals
          go_wp2_with fail
          simp only [Exit.noGoto]
          refine bodyPost_ret (results_tctt rfl _ _ gr 31 #[.int .i64 h.f0, .int .i64 h.f1, .int .i64 h.f2] (0, 0) _ rfl (blk_store3 HT7.out.blk _ _ _) Try.underlying31 rfl (by kernel_rfl)) rfl ?_
          exact ⟨A7, c7, by rw [HV2.out]; rfl, by rw [HV2.out]; exact (Kd.N_reads' HC7.out).2.1, by rw [HV2.out]; exact (Kd.N_reads' (N_store3 HC7.out _ _ _)).2.2, below_store3 HT7.out.bel HG.out.1 _ _ _⟩
      have hd : decide (j < ps.length) = true := decide_eq_true hlt
      obtain ⟨pd, q, rfl, hq, c0⟩ := int_at (Kd.R_reads' HT.out.row).2.2 j hlt
      obtain ⟨i, rfl, hi⟩ := HALL2.out q (List.mem_of_getElem? hq)
      have hik : i < lk.length := by rw [HT.out.len]; exact hi
      have hx : lk[i]? = some lk[i] := List.getElem?_eq_getElem hik
      obtain ⟨x, hxe⟩ : ∃ x, x = lk[i] := ⟨_, rfl⟩
      rw [← hxe] at hx
      obtain ⟨A1', c1', A2', c2', s0, s1, s2, _, _, _, r1, r2, _, _⟩ := HT.out.own.cells hx
      have HX := Aside0.mk (And.intro hq hx)
      have di : decide (i < l.length) = true := decide_eq_true hi
      obtain ⟨u, hu⟩ : ∃ u, u = x.f0 := ⟨_, rfl⟩
      rw [← hu] at s0
      have HUX := Aside0.mk hu
      clear hq hx hxe r1 r2 hu hik
      cases u with
      | false =>
        have HT2 := Aside0.mk (HT.out.skip HX.out.1 HX.out.2 HUX.out.symm)
        go_wp2_with fail
        go_roundw
        case measure => simp [intOf]; omega
        case rel => exact ⟨j + 1, lk, by go_num, by omega, HT2⟩
      | true =>
        have HTC : Aside0 (Calls Try.prog 61 #[.slice (some ⟨g, 0, none⟩) l.length cap, .int .i64 (i : Int), .agg #[.int .i64 h.f0, .int .i64 h.f1, .int .i64 h.f2]] wr fun e w' => e = .returned (.bool (tellF lk i h).1) ∧ Own w' w1.heap.size g cap (tellF lk i h).2 ∧ Below w1.heap.size wr w' ∧ KeepBut wr w' g none) := ⟨by
          have h1 := tell_any w1.heap.size g cap lk i h wr HT.out.own (by rw [HT.out.len]; exact hi) (by rw [HT.out.len]; exact hcap) HT.out.siz HBG1.out.1 (vat_short HT.out.val (by rw [HT.out.len]; exact hl6))
          rw [HT.out.len] at h1
          exact h1⟩
        obtain ⟨n0, n1, n2, _, _, _⟩ := blk3 HT.out.hnt
        go_wp2_with fail
        refine HTC.out.mono ?_
        rintro e w7 ⟨rfl, hO, hB, hk⟩
        have HOK := Aside0.mk (And.intro hO (And.intro hB hk))
        clear hO hB hk s0 s1 s2 n0 n1 n2 c0
        cases hb : (tellF lk i h).1 with
        | true =>
          have HT2 := Aside0.mk (HT.out.told HH.out.2 HX.out.1 HX.out.2 HUX.out.symm hb HGG.out HNG.out.1 hwb HOK.out.2.1 HOK.out.1 HOK.out.2.2)
          clear hb
          go_wp2_with fail
          go_roundw
          case measure => simp [intOf]; omega
          case rel => exact ⟨j + 1, _, by go_num, by omega, HT2⟩
        | false =>
          have HV2 : Aside0 (searchF l b oid = ([], ⟨0, 0, 0⟩, 0, 2)) := ⟨by
            have h1 := HT.out.rest
            rw [tells_up HX.out.1 HX.out.2 HUX.out.symm, if_neg (by rw [hb]; simp)] at h1
            rw [HV.out, ← h1]
            rfl⟩
          have HQ7 : Aside0 (w7.heap[gr]? = some (.cells #[.int .i64 0, .int .i64 0, .int .i64 0] 31 (0, 0))) := ⟨HOK.out.2.2.blk HT.out.blk HGG.out (by simp)⟩
          have HB7 : Aside0 (Below w.heap.size w w7) := ⟨HT.out.bel.trans (HOK.out.2.1.mono hwb)⟩
          clear hb HV
          go_wp2_with fail
          refine (no_any 2 _).mono ?_
          rintro r w8 ⟨rfl, hB⟩
          have HB8 := Aside0.mk (below_step HB7.out hB)
          have HQ8 := Aside0.mk (blk_below HQ7.out hB)
          clear hB
          obtain ⟨q0, q1, q2, f0, f1, f2⟩ := blk3 HQ8.out
          go_wp2_with fail
          simp only [Exit.noGoto]
          refine bodyPost_ret (results_tctt rfl _ _ gr 31 #[.int .i64 0, .int .i64 0, .int .i64 0] (0, 0) _ rfl (blk_store3 HQ8.out _ _ _) Try.underlying31 rfl (by kernel_rfl)) rfl ?_
          exact ⟨none, 0, by rw [HV2.out]; rfl, by rw [HV2.out]; exact Nat.le_refl _, by rw [HV2.out]; exact Kd.C_nil _ _, below_store3 HB8.out HG.out.1 _ _ _⟩
end Go.Proofs.Ytjnceoohlcchnaa.Print

/-! The rule of a route. -/
namespace Go.Proofs.Ytjnceoohlcchnaa.Print
open Go Go.RowKit Go.Deep Go.Proofs.YtjnceoohlcchnaaW.PrintWords Go.Proofs.YtjnceoohlcchnaaW.PrintLast Go.Proofs.YtjnceoohlcchnaaW.PrintMore

/-- all blocks but some are as they were -/
structure Turn (S : Nat → Prop) (w w' : World) : Prop where
  os : w'.os = w.os
  tape : w'.tape = w.tape
  output : w'.output = w.output
  size : w.heap.size ≤ w'.heap.size
  block : ∀ k, k < w.heap.size → ¬ S k → w'.heap[k]? = w.heap[k]?
theorem Turn.refl (S : Nat → Prop) (w : World) : Turn S w w := ⟨rfl, rfl, rfl, Nat.le_refl _, fun _ _ _ => rfl⟩
theorem Turn.trans {S : Nat → Prop} {a b c : World} (h : Turn S a b) (k : Turn S b c) : Turn S a c :=
  ⟨k.os.trans h.os, k.tape.trans h.tape, k.output.trans h.output, Nat.le_trans h.size k.size, fun i hl hi => (k.block i (Nat.lt_of_lt_of_le hl h.size) hi).trans (h.block i hl hi)⟩
theorem Turn.of_below {S : Nat → Prop} {a b : World} (h : Below a.heap.size a b) : Turn S a b := ⟨h.os, h.tape, h.output, h.size, fun i hl _ => h.block i hl⟩
theorem Turn.below {S : Nat → Prop} {a b c : World} (h : Turn S a b) (k : Below b.heap.size b c) : Turn S a c := h.trans (.of_below k)
theorem Turn.set {S : Nat → Prop} {a b : World} (h : Turn S a b) {p : Addr} (hp : S p.block) (u : Value) : Turn S a (b.setCell p u) :=
  h.trans ⟨rfl, rfl, rfl, size_set0 _ _ _, fun i _ hi => Below.heap_setCell b p u i (fun e => hi (e ▸ hp))⟩
theorem Turn.blk {S : Nat → Prop} {a b : World} (h : Turn S a b) {g : Nat} {o : Obj} (hg : a.heap[g]? = some o) (hs : ¬ S g) : b.heap[g]? = some o := (h.block g (blk_lt hg) hs).trans hg
/-- where a message goes, how long it has gone round, and whether the object is there -/
def nxR (l : List S36) (oid p : Int) (s : Nat × Int × Bool) : (Int × Bool) × (Nat × Int × Bool) :=
  if (atB (postA l p).f1 oid || s.1 == l.length) = true then ((0, false), (s.1, s.2.1, atB (postA l p).f1 oid))
  else (((messageF l oid p.toNat s.2.1).1, true), (if s.2.1 < (messageF l oid p.toNat s.2.1).2 then 0 else s.1 + 1, (messageF l oid p.toNat s.2.1).2, false))
/-- what the rule of a route stands on -/
structure RepR (base g0 g cb gm go gf gr gx gt gm2 go2 gn : Nat) (nv : Value) (l : List S36) (oid : Int) (s : Nat × Int × Bool) (W : World) : Prop where
  map : Kd.R k36 81 W base (fun k => (k ≠ gf ∧ k ≠ gr ∧ k ≠ gt) ∧ k < g0) (.slice (some ⟨g, 0, none⟩) l.length cb) l
  m : W.heap[gm]? = some (.cells #[.slice (some ⟨g, 0, none⟩) l.length cb] 74 (0, 0))
  o : W.heap[go]? = some (.cells #[.int .i64 oid] 3 (0, 0))
  f : W.heap[gf]? = some (.cells #[.bool s.2.2] 4 (0, 0))
  r : W.heap[gr]? = some (.cells #[.int .i64 (s.1 : Int)] 3 (0, 0))
  x : W.heap[gx]? = some (.cells #[.func (.func 93) #[] #[.pointer (some ⟨gm2, 0, none⟩), .pointer (some ⟨go2, 0, none⟩)]] 88 (0, 0))
  t : W.heap[gt]? = some (.cells #[.int .i64 s.2.1] 3 (0, 0))
  m2 : W.heap[gm2]? = some (.cells #[.slice (some ⟨g, 0, none⟩) l.length cb] 74 (0, 0))
  o2 : W.heap[go2]? = some (.cells #[.int .i64 oid] 3 (0, 0))
  n : W.heap[gn]? = some (.cells #[nv] 95 (0, 0))
  ne : gr ≠ gt ∧ go ≠ gr ∧ go ≠ gt ∧ go2 ≠ gr ∧ go2 ≠ gt
theorem RepR.below {base g0 g cb gm go gf gr gx gt gm2 go2 gn : Nat} {nv : Value} {l : List S36} {oid : Int} {s : Nat × Int × Bool} {W W' : World} (h : RepR base g0 g cb gm go gf gr gx gt gm2 go2 gn nv l oid s W) (hb : Below W.heap.size W W') : RepR base g0 g cb gm go gf gr gx gt gm2 go2 gn nv l oid s W' :=
  ⟨Kd.R_below h.map hb, blk_below h.m hb, blk_below h.o hb, blk_below h.f hb, blk_below h.r hb, blk_below h.x hb, blk_below h.t hb, blk_below h.m2 hb, blk_below h.o2 hb, blk_below h.n hb, h.ne⟩
theorem RepR.setF {base g0 g cb gm go gf gr gx gt gm2 go2 gn : Nat} {nv : Value} {l : List S36} {oid : Int} {s : Nat × Int × Bool} {W : World} (h : RepR base g0 g cb gm go gf gr gx gt gm2 go2 gn nv l oid s W) (b : Bool) : RepR base g0 g cb gm go gf gr gx gt gm2 go2 gn nv l oid (s.1, s.2.1, b) (W.setCell ⟨gf, 0, none⟩ (.bool b)) := by
  have ty : ∀ {k : Nat} {cs : Array Value} {t : TypeId}, W.heap[k]? = some (.cells cs t (0, 0)) → t ≠ 4 → k ≠ gf := fun hk ht e => by rw [e, h.f] at hk; cases hk; exact ht rfl
  refine ⟨Kd.R_far h.map (fun _ hk => hk.1.1) _, blk_far h.m (ty h.m (by decide)) _, blk_far h.o (ty h.o (by decide)) _, ?_, blk_far h.r (ty h.r (by decide)) _, blk_far h.x (ty h.x (by decide)) _, blk_far h.t (ty h.t (by decide)) _, blk_far h.m2 (ty h.m2 (by decide)) _, blk_far h.o2 (ty h.o2 (by decide)) _, blk_far h.n (ty h.n (by decide)) _, h.ne⟩
  have := blk_set h.f 0 (.bool b)
  simpa using this
theorem RepR.setR {base g0 g cb gm go gf gr gx gt gm2 go2 gn : Nat} {nv : Value} {l : List S36} {oid : Int} {s : Nat × Int × Bool} {W : World} (h : RepR base g0 g cb gm go gf gr gx gt gm2 go2 gn nv l oid s W) (r : Nat) : RepR base g0 g cb gm go gf gr gx gt gm2 go2 gn nv l oid (r, s.2.1, s.2.2) (W.setCell ⟨gr, 0, none⟩ (.int .i64 (r : Int))) := by
  have ty : ∀ {k : Nat} {cs : Array Value} {t : TypeId}, W.heap[k]? = some (.cells cs t (0, 0)) → t ≠ 3 → k ≠ gr := fun hk ht e => by rw [e, h.r] at hk; cases hk; exact ht rfl
  refine ⟨Kd.R_far h.map (fun _ hk => hk.1.2.1) _, blk_far h.m (ty h.m (by decide)) _, blk_far h.o h.ne.2.1 _, blk_far h.f (ty h.f (by decide)) _, ?_, blk_far h.x (ty h.x (by decide)) _, blk_far h.t (Ne.symm h.ne.1) _, blk_far h.m2 (ty h.m2 (by decide)) _, blk_far h.o2 h.ne.2.2.2.1 _, blk_far h.n (ty h.n (by decide)) _, h.ne⟩
  have := blk_set h.r 0 (.int .i64 (r : Int))
  simpa using this
theorem RepR.setT {base g0 g cb gm go gf gr gx gt gm2 go2 gn : Nat} {nv : Value} {l : List S36} {oid : Int} {s : Nat × Int × Bool} {W : World} (h : RepR base g0 g cb gm go gf gr gx gt gm2 go2 gn nv l oid s W) (t : Int) : RepR base g0 g cb gm go gf gr gx gt gm2 go2 gn nv l oid (s.1, t, s.2.2) (W.setCell ⟨gt, 0, none⟩ (.int .i64 t)) := by
  have ty : ∀ {k : Nat} {cs : Array Value} {t : TypeId}, W.heap[k]? = some (.cells cs t (0, 0)) → t ≠ 3 → k ≠ gt := fun hk ht e => by rw [e, h.t] at hk; cases hk; exact ht rfl
  refine ⟨Kd.R_far h.map (fun _ hk => hk.1.2.2) _, blk_far h.m (ty h.m (by decide)) _, blk_far h.o h.ne.2.2.1 _, blk_far h.f (ty h.f (by decide)) _, blk_far h.r h.ne.1 _, blk_far h.x (ty h.x (by decide)) _, ?_, blk_far h.m2 (ty h.m2 (by decide)) _, blk_far h.o2 h.ne.2.2.2.2 _, blk_far h.n (ty h.n (by decide)) _, h.ne⟩
  have := blk_set h.t 0 (.int .i64 t)
  simpa using this
theorem RepR.dep {base g0 g cb gm go gf gr gx gt gm2 go2 gn : Nat} {nv : Value} {l : List S36} {oid : Int} {s : Nat × Int × Bool} {W W' : World} {B gp : Nat} (h : RepR base g0 g cb gm go gf gr gx gt gm2 go2 gn nv l oid s W) (h0 : g0 ≤ gp) (h1 : g0 ≤ B)
    (hm : gm < B ∧ gm ≠ gp) (ho : go < B ∧ go ≠ gp) (hf : gf < B ∧ gf ≠ gp) (hr : gr < B ∧ gr ≠ gp) (hx : gx < B ∧ gx ≠ gp) (ht : gt < B ∧ gt ≠ gp) (hm2 : gm2 < B ∧ gm2 ≠ gp) (ho2 : go2 < B ∧ go2 ≠ gp) (hn : gn < B ∧ gn ≠ gp) (hl : LoBut B gp W W') : RepR base g0 g cb gm go gf gr gx gt gm2 go2 gn nv l oid s W' :=
  ⟨Kd.R_step h.map (fun k hk _ => hl.block k (by omega) (by omega)), (hl.block _ hm.1 hm.2).trans h.m, (hl.block _ ho.1 ho.2).trans h.o, (hl.block _ hf.1 hf.2).trans h.f, (hl.block _ hr.1 hr.2).trans h.r, (hl.block _ hx.1 hx.2).trans h.x, (hl.block _ ht.1 ht.2).trans h.t, (hl.block _ hm2.1 hm2.2).trans h.m2, (hl.block _ ho2.1 ho2.2).trans h.o2, (hl.block _ hn.1 hn.2).trans h.n, h.ne⟩
set_option maxRecDepth 100000 in
set_option maxHeartbeats 8000000 in
theorem route1_any (base g0 g cb gm go gf gr gx gt gm2 go2 gn : Nat) (nv : Value) (l : List S36) (oid : Int) (i : Nat) (s : Nat × Int × Bool) (w : World) (hi : i < l.length) (hs : s.1 ≤ l.length) (hr : RepR base g0 g cb gm go gf gr gx gt gm2 go2 gn nv l oid s w) (hl : Short l) :
    Calls Try.prog 65 #[.int .i64 (i : Int), .pointer (some ⟨gm, 0, none⟩), .pointer (some ⟨go, 0, none⟩), .pointer (some ⟨gf, 0, none⟩), .pointer (some ⟨gr, 0, none⟩), .pointer (some ⟨gx, 0, none⟩), .pointer (some ⟨gt, 0, none⟩)] w fun e w' =>
      e = .returned (.tuple #[.int .i64 (nxR l oid i s).1.1, .bool (nxR l oid i s).1.2]) ∧ RepR base g0 g cb gm go gf gr gx gt gm2 go2 gn nv l oid (nxR l oid i s).2 w' ∧ Turn (fun k => k = gf ∨ k = gr ∨ k = gt) w w' := by
  obtain ⟨row, time, f0⟩ := s
  have HR := Aside0.mk hr
  have HS := Aside0.mk hl
  have hl6 := hl.1
  have hown : Own w base g cb l := Kd.R_mono hr.map (fun _ _ => trivial)
  have hx : l[i]? = some l[i] := List.getElem?_eq_getElem hi
  obtain ⟨x, hxe⟩ : ∃ x, x = l[i] := ⟨_, rfl⟩
  rw [← hxe] at hx
  obtain ⟨A1, c1, A2, c2, p0, p1, p2, _, _, _, r1, r2, hc1, hc2⟩ := hown.cells hx
  have hC1 := (Kd.R_reads' r1).2.2
  have hgg := (hr.map.1 g rfl).1
  obtain ⟨b, hb⟩ : ∃ b, b = atB x.f1 oid := ⟨_, rfl⟩
  obtain ⟨mm, hmm⟩ : ∃ m, m = messageF l oid i time := ⟨_, rfl⟩
  have HV : Aside0 (nxR l oid i (row, time, f0) = if (b || row == l.length) = true then ((0, false), (row, time, b)) else ((mm.1, true), (if time < mm.2 then 0 else row + 1, mm.2, false))) := ⟨by unfold nxR; rw [postA_some hx, ← hb, Int.toNat_natCast, ← hmm]⟩
  have HMM := Aside0.mk (And.intro hmm hb)
  have HC1 := Aside0.mk hC1
  have hs1 := (hl.2 x (List.mem_of_getElem? hx)).1
  have m0 := blk_cell hr.m 0
  have o0 := blk_cell hr.o 0
  simp at m0 o0
  dsimp only at hs
  have hgm := World.block_lt_of_cell? w _ m0
  have hgo := World.block_lt_of_cell? w _ o0
  have hpb := World.block_lt_of_cell? w _ p0
  have t0 : gm ≠ gf := fun e => by have h := hr.m; rw [e, hr.f] at h; cases h
  have t1 : go ≠ gf := fun e => by have h := hr.o; rw [e, hr.f] at h; cases h
  have HSB : Aside0 (∀ w', Turn (fun k => k = gf) w w' → (w'.cell? ⟨gm, 0, none⟩ = some (.slice (some ⟨g, 0, none⟩) l.length cb) ∧ w'.cell? ⟨go, 0, none⟩ = some (.int .i64 oid) ∧ w'.cell? ⟨g, i * 3, none⟩ = some (.bool x.f0) ∧ w'.cell? ⟨g, i * 3 + 1, none⟩ = some (.slice A1 x.f1.length c1) ∧ w'.cell? ⟨g, i * 3 + 2, none⟩ = some (.slice A2 x.f2.length c2))) :=
    ⟨fun w' h => ⟨(World.cell?_of_block (a := ⟨gm, 0, none⟩) (h.block gm hgm t0)).trans m0, (World.cell?_of_block (a := ⟨go, 0, none⟩) (h.block go hgo t1)).trans o0, (World.cell?_of_block (a := ⟨g, i * 3, none⟩) (h.block g hpb hgg.1)).trans p0, (World.cell?_of_block (a := ⟨g, i * 3 + 1, none⟩) (h.block g hpb hgg.1)).trans p1, (World.cell?_of_block (a := ⟨g, i * 3 + 2, none⟩) (h.block g hpb hgg.1)).trans p2⟩⟩
  clear hr hl hx hC1 hmm hown hxe r1 r2 hgg m0 o0 p0 p1 p2 hgm hgo hpb t0 t1 hb
  have hu := Try.underlying81
  have hlt : decide (i < l.length) = true := decide_eq_true hi
  go_enter Try.func65, Try.ntmps65
  go_upto_region 1 with fail
  go_cut [8] (fun u8 wx => u8 = .int .i64 0 ∧ ∃ w2, wx = w2.setCell ⟨gf, 0, none⟩ (.bool b) ∧ Aside0 (Below w.heap.size w w2))
  case first =>
    go_region_held3 (fun w' => w'.cell? ⟨gm, 0, none⟩ = some (.slice (some ⟨g, 0, none⟩) l.length cb) ∧ w'.cell? ⟨go, 0, none⟩ = some (.int .i64 oid) ∧ w'.cell? ⟨g, i * 3, none⟩ = some (.bool x.f0) ∧ w'.cell? ⟨g, i * 3 + 1, none⟩ = some (.slice A1 x.f1.length c1) ∧ w'.cell? ⟨g, i * 3 + 2, none⟩ = some (.slice A2 x.f2.length c2)) (exact HSB.out _ (by first | exact (Turn.refl _ _).below (below_drew (Below.refl _ _)) | exact HT2.out | exact HT2.out.set rfl _)) (first | (go_at_call 66; refine (has_any x.f0 A1 x.f1.length c1 A2 x.f2.length c2 x.f1 oid _ rfl (Kd.C_below HC1.out (below_drew (Below.refl _ _))) hc1 hs1).mono ?_; rintro e w2 ⟨rfl, hB⟩; have HB2 := Aside0.mk (below_step (below_drew (Below.refl _ _)) hB); have HT2 : Aside0 (Turn (fun k => k = gf) w w2) := ⟨.of_below HB2.out⟩; have HF2 := Aside0.mk (blk_below HR.out.f HB2.out); clear hB; rw [← HMM.out.2]; unfold hintV; have f1 := blk_frozen HF2.out 0; have f2 := blk_cell HF2.out 0; simp at f2))
    all_goals
      go_wp2_with fail
      go_meet
      case rel => exact ⟨rfl, _, rfl, HB2⟩
  case rest =>
    obtain ⟨rfl, w2, rfl, HB2⟩ := hcut
    have HR2 := Aside0.mk ((HR.out.below HB2.out).setF b)
    have HT2 : Aside0 (Turn (fun k => k = gf ∨ k = gr ∨ k = gt) w (w2.setCell ⟨gf, 0, none⟩ (.bool b))) := ⟨((Turn.of_below HB2.out).set (.inl rfl) _)⟩
    obtain ⟨w3, hw3⟩ : ∃ w3, w3 = w2.setCell ⟨gf, 0, none⟩ (.bool b) := ⟨_, rfl⟩
    rw [← hw3] at HR2 HT2 ⊢
    dsimp only at HR2
    clear hw3
    have k0 := blk_cell HR2.out.f 0
    have k1 := blk_cell HR2.out.r 0
    have k2 := blk_cell HR2.out.m 0
    have k3 := blk_cell HR2.out.x 0
    have k4 := blk_cell HR2.out.t 0
    simp at k0 k1 k2 k3 k4
    cases b with
    | true =>
      have HV2 : Aside0 (nxR l oid i (row, time, f0) = ((0, false), (row, time, true))) := ⟨by rw [HV.out]; rfl⟩
      clear HV
      go_wp2_with fail
      go_returns
      exact ⟨by rw [HV2.out]; rfl, by rw [HV2.out]; exact HR2.out, HT2.out⟩
    | false =>
      by_cases hrn : row = l.length
      · have HV2 : Aside0 (nxR l oid i (row, time, f0) = ((0, false), (row, time, false))) := ⟨by rw [HV.out, hrn]; simp⟩
        have drn : ((row : Int) == (l.length : Int)) = true := by rw [beq_iff_eq]; omega
        clear HV hrn
        go_wp2_with fail
        go_returns
        exact ⟨by rw [HV2.out]; rfl, by rw [HV2.out]; exact HR2.out, HT2.out⟩
      have drn : ((row : Int) == (l.length : Int)) = false := by rw [beq_eq_false_iff_ne]; omega
      have HV2 : Aside0 (nxR l oid i (row, time, f0) = ((mm.1, true), (if time < mm.2 then 0 else row + 1, mm.2, false))) := ⟨by rw [HV.out, if_neg (by simp; exact hrn)]⟩
      have hw : IntKind.i64.wrap ((row : Int) + 1) = ((row + 1 : Nat) : Int) := by rw [IntKind.wrap_i64]; omega
      clear HV hrn
      have m20 := blk_cell HR2.out.m2 0
      have o20 := blk_cell HR2.out.o2 0
      simp at m20 o20
      have HMS := Aside0.mk (message1_any (some ⟨g, 0, none⟩) cb l oid i time gm2 go2 w3 hi m20 o20 (Kd.R_reads' HR2.out.map).2.2 HS.out)
      clear m20 o20
      go_wp2_with fail
      refine HMS.out.mono ?_
      rintro e w4 ⟨rfl, hB⟩
      rw [← HMM.out.1]
      have HR4 := Aside0.mk (HR2.out.below hB)
      have HT4 := Aside0.mk (HT2.out.below hB)
      have HR5 := Aside0.mk (HR4.out.setR (row + 1))
      have HT5 : Aside0 (Turn (fun k => k = gf ∨ k = gr ∨ k = gt) w (w4.setCell ⟨gr, 0, none⟩ (.int .i64 ((row + 1 : Nat) : Int)))) := ⟨HT4.out.set (.inr (.inl rfl)) _⟩
      dsimp only at HR5
      clear hB k0 k1 k2 k3 k4 HMS
      have k1 := blk_cell HR4.out.r 0
      have k4 := blk_cell HR4.out.t 0
      have e1 := blk_frozen HR4.out.r 0
      have e4 := blk_frozen HR4.out.t 0
      simp at k1 k4
      go_upto_region 6 with fail
      obtain ⟨w5, hw5⟩ : ∃ w5, w5 = w4.setCell ⟨gr, 0, none⟩ (.int .i64 ((row + 1 : Nat) : Int)) := ⟨_, rfl⟩
      rw [← hw5] at HR5 HT5
      first | rw [← hw5] | (rw [show ((row : Int) + 1) = ((row + 1 : Nat) : Int) from by omega, ← hw5])
      clear hw5 k1 k4 e1 e4
      have k1 := blk_cell HR5.out.r 0
      have k4 := blk_cell HR5.out.t 0
      have e1 := blk_frozen HR5.out.r 0
      have e4 := blk_frozen HR5.out.t 0
      simp at k1 k4
      obtain ⟨mp, mt⟩ := mm
      dsimp only at HV2
      by_cases ht : time < mt
      · have dt : decide (time < mt) = true := decide_eq_true ht
        have HR6 := Aside0.mk ((HR5.out.setR 0).setT mt)
        have HT6 : Aside0 (Turn (fun k => k = gf ∨ k = gr ∨ k = gt) w ((w5.setCell ⟨gr, 0, none⟩ (.int .i64 ((0 : Nat) : Int))).setCell ⟨gt, 0, none⟩ (.int .i64 mt))) := ⟨(HT5.out.set (.inr (.inl rfl)) _).set (.inr (.inr rfl)) _⟩
        have HV3 : Aside0 (nxR l oid i (row, time, f0) = ((mp, true), (0, mt, false))) := ⟨by rw [HV2.out, if_pos ht]⟩
        have hne := HR5.out.ne.1
        clear HV2 ht
        go_wp2_with fail
        go_returns
        exact ⟨by rw [HV3.out]; rfl, by rw [HV3.out]; exact HR6.out, HT6.out⟩
      · have dt : decide (time < mt) = false := decide_eq_false ht
        have HR6 := Aside0.mk (HR5.out.setT mt)
        have HT6 : Aside0 (Turn (fun k => k = gf ∨ k = gr ∨ k = gt) w (w5.setCell ⟨gt, 0, none⟩ (.int .i64 mt))) := ⟨HT5.out.set (.inr (.inr rfl)) _⟩
        have HV3 : Aside0 (nxR l oid i (row, time, f0) = ((mp, true), (row + 1, mt, false))) := ⟨by rw [HV2.out, if_neg ht]⟩
        clear HV2 ht
        go_wp2_with fail
        go_returns
        exact ⟨by rw [HV3.out]; rfl, by rw [HV3.out]; exact HR6.out, HT6.out⟩
end Go.Proofs.Ytjnceoohlcchnaa.Print

/-! How long a route is. -/
namespace Go.Proofs.Ytjnceoohlcchnaa.Print
open Go Go.RowKit Go.Deep Go.Proofs.YtjnceoohlcchnaaW.PrintWords Go.Proofs.YtjnceoohlcchnaaW.PrintLast Go.Proofs.YtjnceoohlcchnaaW.PrintMore

def newer (oid t : Int) (x : S36) : Bool := atB x.f2 oid && decide (t < (lookL x.f2 oid).f2)
/-- how many places have newer hints -/
def rho (l : List S36) (oid t : Int) : Nat := l.countP (newer oid t)
theorem count_lt {α : Type} (p q : α → Bool) : ∀ {l : List α}, (∀ x ∈ l, q x = true → p x = true) → ∀ {x : α}, x ∈ l → p x = true → q x = false → l.countP q < l.countP p
  | [], _, x, hx, _, _ => by cases hx
  | y :: l, h, x, hx, h1, h2 => by
    have hm : l.countP q ≤ l.countP p := List.countP_mono_left (fun z hz => h z (List.mem_cons_of_mem _ hz))
    rw [List.countP_cons, List.countP_cons]
    rcases List.mem_cons.1 hx with rfl | hx
    · rw [h1, h2]; simp; omega
    · have ih := count_lt p q (fun z hz => h z (List.mem_cons_of_mem _ hz)) hx h1 h2
      by_cases hq : q y = true
      · rw [hq, h y (List.mem_cons_self ..) hq]; simp; omega
      · have : q y = false := by simpa using hq
        rw [this]; simp; omega
theorem rho_le (l : List S36) (oid t : Int) : rho l oid t ≤ l.length := List.countP_le_length
theorem rho_lt {l : List S36} {oid t : Int} {x : S36} (hx : x ∈ l) (h : newer oid t x = true) : rho l oid (lookL x.f2 oid).f2 < rho l oid t := by
  have h0 := h
  unfold newer at h0
  rw [Bool.and_eq_true, decide_eq_true_iff] at h0
  refine count_lt _ _ (fun y _ hy => ?_) hx h ?_
  · unfold newer at hy ⊢
    rw [Bool.and_eq_true, decide_eq_true_iff] at hy ⊢
    exact ⟨hy.1, by omega⟩
  · unfold newer
    rw [decide_eq_false (by omega), Bool.and_false]
def muR (l : List S36) (oid : Int) (s : Nat × Int × Bool) : Nat := rho l oid s.2.1 * (l.length + 1) + (l.length - s.1)
def GoodR (l : List S36) (p : Int) (s : Nat × Int × Bool) : Prop := (∃ i : Nat, p = (i : Int) ∧ i < l.length) ∧ s.1 ≤ l.length
theorem good_nxR {l : List S36} (hv : Vat l l.length) (oid : Int) (p : Int) (s : Nat × Int × Bool) (hg : GoodR l p s) (h : (nxR l oid p s).1.2 = true) : GoodR l (nxR l oid p s).1.1 (nxR l oid p s).2 ∧ muR l oid (nxR l oid p s).2 < muR l oid s := by
  obtain ⟨⟨i, rfl, hi⟩, hs⟩ := hg
  obtain ⟨row, time, f⟩ := s
  have hx : l[i]? = some l[i] := List.getElem?_eq_getElem hi
  dsimp only at hs
  unfold nxR at h ⊢
  rw [postA_some hx, Int.toNat_natCast] at h ⊢
  dsimp only at h ⊢
  by_cases h1 : (atB l[i].f1 oid || row == l.length) = true
  · rw [if_pos h1] at h; cases h
  rw [if_neg h1] at h ⊢
  have hrow : row ≠ l.length := fun e => h1 (by rw [e]; simp)
  unfold messageF
  rw [postA_some hx]
  by_cases h2 : messageB l[i] oid time = true
  · rw [if_pos h2]
    unfold messageB at h2
    rw [Bool.and_eq_true, Bool.and_eq_true, decide_eq_true_iff] at h2
    obtain ⟨⟨a, _⟩, c⟩ := h2
    obtain ⟨a1, _⟩ := at_found a
    obtain ⟨_, _, _, c3, c4⟩ := (hv.ok _ (List.mem_of_getElem? hx)).hints.all _ a1
    have hr := rho_lt (t := time) (List.mem_of_getElem? hx) (show newer oid time l[i] = true by unfold newer; rw [a, decide_eq_true c]; rfl)
    dsimp only
    rw [if_pos c]
    refine ⟨⟨⟨_, (Int.toNat_of_nonneg c3).symm, by omega⟩, Nat.zero_le _⟩, ?_⟩
    unfold muR
    dsimp only
    have h3 := Nat.mul_le_mul_right (l.length + 1) (Nat.succ_le_of_lt hr)
    rw [Nat.succ_mul] at h3
    omega
  · rw [if_neg h2]
    dsimp only
    rw [if_neg (by omega)]
    refine ⟨⟨⟨_, rfl, Nat.mod_lt _ (by omega)⟩, ?_⟩, ?_⟩
    · show row + 1 ≤ l.length
      omega
    · unfold muR
      dsimp only
      omega
def routeS (l : List S36) (oid p t : Int) : List Int := stepsR (nxR l oid) (muR l oid (0, t, false) + 1) p (0, t, false)
def routeE (l : List S36) (oid p t : Int) : Bool := (stepsE (nxR l oid) (muR l oid (0, t, false) + 1) p (0, t, false)).2.2
def routeF (l : List S36) (place oid time : Int) : List Int × Bool × Int :=
  if givenC l (timeOk oid time) [place] = 0 then (routeS l oid place time, routeE l oid place time, 0) else ([], false, givenC l (timeOk oid time) [place])
theorem mu_small {l : List S36} (h : l.length ≤ 16) (oid : Int) (s : Nat × Int × Bool) : muR l oid s ≤ 288 := by
  unfold muR
  have h1 := rho_le l oid s.2.1
  have h2 := Nat.mul_le_mul (Nat.le_trans h1 h) (show l.length + 1 ≤ 17 by omega)
  omega
end Go.Proofs.Ytjnceoohlcchnaa.Print

/-! Route. -/
namespace Go.Proofs.Ytjnceoohlcchnaa.Print
open Go Go.RowKit Go.Deep Go.Proofs.YtjnceoohlcchnaaW.PrintWords Go.Proofs.YtjnceoohlcchnaaW.PrintLast Go.Proofs.YtjnceoohlcchnaaW.PrintMore

theorem below_turn {S : Nat → Prop} {w a b : World} (h : Below w.heap.size w a) (ht : Turn S a b) (hS : ∀ k, S k → w.heap.size ≤ k) : Below w.heap.size w b :=
  ⟨ht.os.trans h.os, ht.tape.trans h.tape, ht.output.trans h.output, Nat.le_trans h.size ht.size, fun k hk => (ht.block k (Nat.lt_of_lt_of_le hk h.size) (fun e => by have := hS k e; omega)).trans (h.block k hk)⟩
theorem hi_turn {S : Nat → Prop} {B : Nat} {a b : World} (ht : Turn S a b) (hS : ∀ k, S k → k < B) : KeepHi B a b :=
  ⟨ht.os, ht.tape, ht.output, ht.size, fun k hk hl => ht.block k hl (fun e => by have := hS k e; omega)⟩
theorem below_lo {B gp : Nat} {w a b : World} (h : Below w.heap.size w a) (hl : LoBut B gp a b) (hw : w.heap.size ≤ gp) (hB : w.heap.size ≤ B) : Below w.heap.size w b :=
  ⟨hl.os.trans h.os, hl.tape.trans h.tape, hl.output.trans h.output, Nat.le_trans h.size hl.size, fun k hk => (hl.block k (by omega) (by omega)).trans (h.block k hk)⟩
set_option maxRecDepth 100000 in
/-- collecting a route -/
theorem route_collect (w : World) (base g0 g cb gm go gf gr gx gt gm2 go2 gp gn : Nat) (l : List S36) (oid t : Int) (i : Nat) (w2 : World) (hi : i < l.length) (hv : Vat l l.length) (hl16 : l.length ≤ 16) (hl : Short l)
    (h : RepR base g0 g cb gm go gf gr gx gt gm2 go2 gn (.func (.func 65) #[] #[.pointer (some ⟨gm, 0, none⟩), .pointer (some ⟨go, 0, none⟩), .pointer (some ⟨gf, 0, none⟩), .pointer (some ⟨gr, 0, none⟩), .pointer (some ⟨gx, 0, none⟩), .pointer (some ⟨gt, 0, none⟩)]) l oid (0, t, false) w2)
    (hp : w2.heap[gp]? = some (.cells #[.int .i64 (i : Int)] 3 (0, 0))) (hbw : Below w.heap.size w w2)
    (hlo : w.heap.size ≤ gf ∧ w.heap.size ≤ gr ∧ w.heap.size ≤ gt ∧ w.heap.size ≤ gp ∧ g0 ≤ gp) (hne : gm ≠ gp ∧ go ≠ gp ∧ gf ≠ gp ∧ gr ≠ gp ∧ gx ≠ gp ∧ gt ≠ gp ∧ gm2 ≠ gp ∧ go2 ≠ gp ∧ gn ≠ gp) :
    Calls Try.prog 63 #[.func (.func 95) #[] #[.pointer (some ⟨gp, 0, none⟩), .pointer (some ⟨gn, 0, none⟩)]] w2 fun e w' => ∃ v, e = .returned v ∧ Kd.R (Kd.int .i64) 3 w' w2.heap.size (fun _ => True) v (routeS l oid i t) ∧ Below w.heap.size w w' ∧ w'.heap[gf]? = some (.cells #[.bool (routeE l oid i t)] 4 (0, 0)) := by
  obtain ⟨nv, hnv⟩ : ∃ nv, nv = Value.func (.func 65) #[] #[.pointer (some ⟨gm, 0, none⟩), .pointer (some ⟨go, 0, none⟩), .pointer (some ⟨gf, 0, none⟩), .pointer (some ⟨gr, 0, none⟩), .pointer (some ⟨gx, 0, none⟩), .pointer (some ⟨gt, 0, none⟩)] := ⟨_, rfl⟩
  have lm := blk_lt h.m
  have lo := blk_lt h.o
  have lf := blk_lt h.f
  have lr := blk_lt h.r
  have lx := blk_lt h.x
  have lt := blk_lt h.t
  have lm2 := blk_lt h.m2
  have lo2 := blk_lt h.o2
  have ln := blk_lt h.n
  have lp := blk_lt hp
  obtain ⟨n1, n2, n3, n4, n5, n6, n7, n8, n9⟩ := hne
  obtain ⟨q1, q2, q3, q4, q5⟩ := hlo
  have hdep : ∀ (s : Nat × Int × Bool) (W W' : World), (RepR base g0 g cb gm go gf gr gx gt gm2 go2 gn nv l oid s W ∧ Below w.heap.size w W) → LoBut w2.heap.size gp W W' → (RepR base g0 g cb gm go gf gr gx gt gm2 go2 gn nv l oid s W' ∧ Below w.heap.size w W') := fun s W W' hr hlb =>
    ⟨hr.1.dep (B := w2.heap.size) q5 (by omega) ⟨lm, n1⟩ ⟨lo, n2⟩ ⟨lf, n3⟩ ⟨lr, n4⟩ ⟨lx, n5⟩ ⟨lt, n6⟩ ⟨lm2, n7⟩ ⟨lo2, n8⟩ ⟨ln, n9⟩ hlb, below_lo hr.2 hlb q4 hbw.size⟩
  rw [← hnv] at h
  have hseq := steps1_seq 65 #[.pointer (some ⟨gm, 0, none⟩), .pointer (some ⟨go, 0, none⟩), .pointer (some ⟨gf, 0, none⟩), .pointer (some ⟨gr, 0, none⟩), .pointer (some ⟨gx, 0, none⟩), .pointer (some ⟨gt, 0, none⟩)] (fun _ _ => rfl) gp gn w2.heap.size lp (nxR l oid)
    (fun s W => RepR base g0 g cb gm go gf gr gx gt gm2 go2 gn nv l oid s W ∧ Below w.heap.size w W) (GoodR l) (muR l oid)
    (fun W => match W.cell? ⟨gr, 0, none⟩, W.cell? ⟨gt, 0, none⟩ with | some (.int _ r), some (.int _ t) => muR l oid (r.toNat, t, false) | _, _ => 0)
    (fun s W hr => by
      have c1 := blk_cell hr.1.r 0
      have c2 := blk_cell hr.1.t 0
      simp only [c1, c2]
      rfl)
    hdep
    (fun s W hr => by have := hr.1.n; rw [hnv] at this; exact this)
    (fun p s W hg hr hBW => by
      obtain ⟨⟨j, rfl, hj⟩, hs⟩ := hg
      refine (route1_any base g0 g cb gm go gf gr gx gt gm2 go2 gn nv l oid j s W hj hs hr.1 hl).mono ?_
      rintro e w' ⟨rfl, hr', ht⟩
      refine ⟨rfl, ⟨hr', below_turn hr.2 ht (fun k hk => by rcases hk with rfl | rfl | rfl <;> assumption)⟩, hi_turn ht (fun k hk => by rcases hk with rfl | rfl | rfl <;> assumption), ht.block gp (by omega) (fun hk => by rcases hk with e | e | e <;> omega)⟩)
    (fun p s hg hh => good_nxR hv oid p s hg hh) (i : Int) (0, t, false) ⟨⟨i, rfl, hi⟩, Nat.zero_le _⟩
  have hlen := steps_len (nxR l oid) (muR l oid (0, t, false) + 1) i (0, t, false)
  have hmu := mu_small hl16 oid (0, t, false)
  refine (collect_any 95 _ (fun _ _ => rfl) w2.heap.size _ _ _ hseq (by omega) w2 (Nat.le_refl _)
    (fun W W' hh hb => ⟨(hb.block gp lp).trans hh.1, hdep _ W W' hh.2 (.of_below hb)⟩)
    (fun W W' hh hb => hdep _ W W' hh (.of_below hb)) ⟨hp, h, hbw⟩).mono ?_
  rintro e w' ⟨v, rfl, hR, hF, _⟩
  exact ⟨v, rfl, hR, hF.2, hF.1.f⟩
set_option maxRecDepth 100000 in
set_option maxHeartbeats 8000000 in
theorem Route_any (A : Option Addr) (n c : Nat) (l : List S36) (place oid time : Int) (w : World) (hn : n = l.length) (hr : Kd.C k36 w A l.length l) (hc : n ≤ c) (hl : Short l) :
    Calls Try.prog 19 #[.slice A n c, .int .i64 place, .int .i64 oid, .int .i64 time] w fun e w' => ∃ v, e = .returned (.tuple #[v, .bool (routeF l place oid time).2.1, .int .i64 (routeF l place oid time).2.2]) ∧ Kd.R (Kd.int .i64) 3 w' w.heap.size (fun _ => True) v (routeF l place oid time).1 ∧ Below w.heap.size w w' := by
  subst hn
  have HR := Aside0.mk hr
  have HS := Aside0.mk hl
  have hl6 := hl.1
  clear hr hl
  have hmf : ∀ (fn : Fn) (first cap : Array Value) (w : World), (Instr.makeFunc fn first cap).run Try.prog w = .ok (.func fn first cap) w := fun _ _ _ _ => rfl
  obtain ⟨b0, h0⟩ : ∃ b, b = decide (1 ≤ oid) := ⟨_, rfl⟩
  obtain ⟨b1, h1⟩ : ∃ b, b = decide (-1 ≤ time) := ⟨_, rfl⟩
  obtain ⟨b2, h2⟩ : ∃ b, b = decide (time ≤ 1099511627776) := ⟨_, rfl⟩
  have HK : Aside0 (timeOk oid time = (b0 && b1 && b2)) := ⟨by unfold timeOk; rw [h0, h1, h2]⟩
  have h0' := h0.symm
  have h1' := h1.symm
  have h2' := h2.symm
  clear h0 h1 h2
  go_enter Try.func19, Try.ntmps19
  go_upto_region 1 with fail
  obtain ⟨go, hgo⟩ : ∃ g, g = w.heap.size := ⟨_, rfl⟩
  obtain ⟨gt, hgt⟩ : ∃ g, g = w.heap.size + 1 := ⟨_, rfl⟩
  obtain ⟨w1, hw1⟩ : ∃ w1, w1 = (w.alloc (Obj.cells #[Value.int IntKind.i64 oid] 3)).alloc (Obj.cells #[Value.int IntKind.i64 time] 3) := ⟨_, rfl⟩
  rw [← hw1, ← hgt, ← hgo]
  have HB1 : Aside0 (Below w.heap.size w w1) := ⟨by rw [hw1]; exact below_alloc (below_alloc (Below.refl _ _) _) _⟩
  have HO1 : Aside0 (w1.heap[go]? = some (.cells #[.int .i64 oid] 3 (0, 0))) := ⟨by rw [hw1, hgo]; exact blk_alloc (heap_alloc_new _ _) _⟩
  have HT1 : Aside0 (w1.heap[gt]? = some (.cells #[.int .i64 time] 3 (0, 0))) := ⟨by
    rw [hw1, hgt]
    have h := heap_alloc_new (w.alloc (Obj.cells #[Value.int IntKind.i64 oid] 3)) (Obj.cells #[Value.int IntKind.i64 time] 3)
    simpa using h⟩
  have HGT : Aside0 (w.heap.size ≤ gt ∧ go ≠ gt) := ⟨by omega⟩
  clear hw1 hgo hgt
  go_cut [11, 12] (fun u11 u12 wx => ∃ gm v, u11 = .pointer (some ⟨gm, 0, none⟩) ∧ u12 = .int .i64 (givenC l (b0 && b1 && b2) [place]) ∧ Aside0 (w1.heap.size ≤ gm) ∧ Aside0 (wx.heap[gm]? = some (.cells #[v] 74 (0, 0))) ∧ Aside0 (Below w1.heap.size w1 wx) ∧ Aside0 (givenC l (b0 && b1 && b2) [place] = 0 → Kd.R k36 81 wx w1.heap.size (fun _ => True) v l) ∧ Aside0 (givenC l (b0 && b1 && b2) [place] ≠ 0 → v = .slice none 0 0))
  case first =>
    have HG : Aside0 (∀ ok, Calls Try.prog 57 #[.slice A l.length c, .bool ok, .slice (some ⟨w1.heap.size, 0, none⟩) 1 1] (w1.alloc (Obj.cells #[Value.int IntKind.i64 place] 3)) fun e w' => ∃ A2 nn c2, e = .returned (.tuple #[.slice A2 nn c2, .int .i64 (givenC l ok [place])]) ∧ Below w1.heap.size w1 w' ∧ (givenC l ok [place] = 0 → Kd.R k36 81 w' w1.heap.size (fun _ => True) (.slice A2 nn c2) l) ∧ (givenC l ok [place] ≠ 0 → (Value.slice A2 nn c2) = .slice none 0 0)) := ⟨fun ok => by
      have hb := below_alloc (Below.refl w1.heap.size w1) (Obj.cells #[Value.int IntKind.i64 place] 3)
      refine (given_any A l.length c l ok (some ⟨w1.heap.size, 0, none⟩) 1 1 [place] _ rfl (Kd.C_below HR.out (below_step HB1.out hb)) hc HS.out rfl (one_ints _ place (heap_alloc_new _ _)) (Nat.le_refl _) (by simp)).mono ?_
      rintro e w2 ⟨v, rfl, hB, hv0, hv1⟩
      by_cases hgc : givenC l ok [place] = 0
      · obtain ⟨A2, c2, rfl⟩ := Kd.R_slice (hv0 hgc)
        exact ⟨A2, _, c2, rfl, below_step hb hB, fun h => Kd.R_lower (hv0 h) hb.size, fun h => absurd hgc h⟩
      · have := hv1 hgc
        subst this
        exact ⟨none, 0, 0, rfl, below_step hb hB, fun h => absurd h hgc, fun _ => rfl⟩⟩
    have k0 := blk_cell HO1.out 0
    have k1 := blk_cell HT1.out 0
    simp at k0 k1
    cases b0 <;> cases b1 <;> cases b2
    all_goals
      go_wp2_with fail
      refine (HG.out _).mono ?_
      rintro e w2 ⟨A2, nn, c2, rfl, hB, hv0, hv1⟩
      have HH := Aside0.mk (And.intro hB (And.intro hv0 hv1))
      clear hB hv0 hv1
      go_wp2_with fail
      go_meet
      case rel => exact ⟨_, _, rfl, rfl, ⟨HH.out.1.size⟩, ⟨heap_alloc_new _ _⟩, ⟨below_alloc HH.out.1 _⟩, ⟨fun h => Kd.R_below (HH.out.2.1 h) (below_alloc (Below.refl _ _) _)⟩, ⟨HH.out.2.2⟩⟩
  case rest =>
    obtain ⟨gm, v, rfl, rfl, HGM, HM2, HB2, HV0, HV1⟩ := hcut
    obtain ⟨ok, hok⟩ : ∃ ok, ok = (b0 && b1 && b2) := ⟨_, rfl⟩
    rw [← hok] at HK HV0 HV1 ⊢
    clear h0' h1' h2' hok
    have HBW := Aside0.mk (below_step HB1.out HB2.out)
    by_cases hgc : givenC l ok [place] = 0
    rotate_left
    · have HV : Aside0 (routeF l place oid time = ([], false, givenC l ok [place])) := ⟨by unfold routeF; rw [HK.out, if_neg hgc]⟩
      obtain ⟨gc, hgc2⟩ : ∃ gc, gc = givenC l ok [place] := ⟨_, rfl⟩
      rw [← hgc2] at hgc HV ⊢
      have dg : (gc != 0) = true := by rw [bne_iff_ne]; exact hgc
      clear hgc hgc2 HV0 HV1
      go_wp2_with fail
      go_returns
      exact ⟨.slice none 0 0, by rw [HV.out]; rfl, by rw [HV.out]; exact Kd.R_nil _ _ _ _ _, HBW.out⟩
    have HCK := Aside0.mk (And.intro (check_vat (given_in hgc).2.1) ((check_iff l).1 (given_in hgc).2.1).most)
    obtain ⟨i, hpi, hil, _⟩ := given_post hgc
    subst hpi
    have HV : Aside0 (routeF l i oid time = (routeS l oid i time, routeE l oid i time, 0)) := ⟨by unfold routeF; rw [HK.out, if_pos hgc]⟩
    obtain ⟨g, cap, rfl, hO, hcap, hbg, hg2⟩ := own_of (HV0.out hgc) (by omega)
    have HO := Aside0.mk hO
    rw [hgc]
    clear hgc HV0 HV1 hO hbg hg2
    have HO2 := Aside0.mk (blk_below HO1.out HB2.out)
    have HT2 := Aside0.mk (blk_below HT1.out HB2.out)
    have k0 := blk_cell HO2.out 0
    have k2 := blk_cell HM2.out 0
    simp at k0 k2
    go_upto_region 5 with fail
    obtain ⟨gr, hgr⟩ : ∃ g, g = wc.heap.size := ⟨_, rfl⟩
    obtain ⟨gf, hgf⟩ : ∃ g, g = wc.heap.size + 1 := ⟨_, rfl⟩
    obtain ⟨w3, hw3⟩ : ∃ w3, w3 = (wc.alloc (Obj.cells #[Value.int IntKind.i64 0] 3)).alloc (Obj.cells #[Value.bool false] 4) := ⟨_, rfl⟩
    rw [← hw3, ← hgf, ← hgr]
    have hB23 : Below wc.heap.size wc w3 := by rw [hw3]; exact below_alloc (below_alloc (Below.refl _ _) _) _
    have HM3 := Aside0.mk (blk_below HM2.out hB23)
    have HO3 := Aside0.mk (blk_below HO2.out hB23)
    have HT3 := Aside0.mk (blk_below HT2.out hB23)
    have HGR3 : Aside0 (w3.heap[gr]? = some (.cells #[.int .i64 0] 3 (0, 0))) := ⟨by rw [hw3, hgr]; exact blk_alloc (heap_alloc_new _ _) _⟩
    have HGF3 : Aside0 (w3.heap[gf]? = some (.cells #[.bool false] 4 (0, 0))) := ⟨by
      rw [hw3, hgf]
      have h := heap_alloc_new (wc.alloc (Obj.cells #[Value.int IntKind.i64 0] 3)) (Obj.cells #[Value.bool false] 4)
      simpa using h⟩
    have HRM : Aside0 (Kd.R k36 81 w3 w1.heap.size (fun k => (k ≠ gf ∧ k ≠ gr ∧ k ≠ gt) ∧ k < wc.heap.size) (.slice (some ⟨g, 0, none⟩) l.length cap) l) := ⟨by
      have hgt1 := blk_lt HT1.out
      exact Kd.R_below (Kd.R_mono (Kd.R_bound HO.out) (fun k hk => ⟨⟨by omega, by omega, by omega⟩, hk.2.2.1⟩)) hB23⟩
    have HB3 := Aside0.mk (below_step HBW.out hB23)
    have HSZ : Aside0 (gr = wc.heap.size ∧ gf = wc.heap.size + 1 ∧ wc.heap.size + 2 ≤ w3.heap.size ∧ gm < wc.heap.size ∧ go < wc.heap.size ∧ gt < wc.heap.size) := ⟨⟨hgr, hgf, by rw [hw3]; simp, blk_lt HM2.out, blk_lt HO2.out, blk_lt HT2.out⟩⟩
    clear hw3 hgr hgf hB23 k0 k2
    have k0 := blk_cell HO3.out 0
    have k2 := blk_cell HM3.out 0
    simp at k0 k2
    go_wp2_with fail
    refine (message_any (some ⟨g, 0, none⟩) l.length cap oid w3).mono ?_
    rintro e w4 ⟨gm2, go2, rfl, hm2, ho2, hB, hgo2⟩
    have HM24 := Aside0.mk hm2
    have HO24 := Aside0.mk ho2
    have HB34 := Aside0.mk hB
    have HG2 := Aside0.mk hgo2
    clear hm2 ho2 hB hgo2 k0 k2
    have hsf : ∀ (a : Addr) (W : World) (f : Fn) (x y : Array Value), (store a (.func f x y)).run Try.prog W = stored Try.prog W a (.func f x y) .plain := fun a W f x y => run_store _ W a _ _ rfl
    go_upto_region 6 with fail
    clear hsf
    obtain ⟨gx, hgx⟩ : ∃ g, g = w4.heap.size := ⟨_, rfl⟩
    obtain ⟨w5, hw5⟩ : ∃ w5, w5 = w4.alloc (Obj.cells #[Value.func (.func 93) #[] #[.pointer (some ⟨gm2, 0, none⟩), .pointer (some ⟨go2, 0, none⟩)]] 88) := ⟨_, rfl⟩
    rw [← hw5, ← hgx]
    have HX5 : Aside0 (w5.heap[gx]? = some (.cells #[.func (.func 93) #[] #[.pointer (some ⟨gm2, 0, none⟩), .pointer (some ⟨go2, 0, none⟩)]] 88 (0, 0))) := ⟨by rw [hw5, hgx]; exact heap_alloc_new _ _⟩
    have HB45 : Aside0 (Below w4.heap.size w4 w5) := ⟨by rw [hw5]; exact below_alloc (Below.refl _ _) _⟩
    clear hw5 hgx
    go_wp2_with fail
    refine (steps_any (i : Int) 65 #[.pointer (some ⟨gm, 0, none⟩), .pointer (some ⟨go, 0, none⟩), .pointer (some ⟨gf, 0, none⟩), .pointer (some ⟨gr, 0, none⟩), .pointer (some ⟨gx, 0, none⟩), .pointer (some ⟨gt, 0, none⟩)] w5).mono ?_
    rintro e w6 ⟨gp, gn, rfl, hp, hn, hgp, hgn, hgpn, hB56⟩
    have HCO : Aside0 (Calls Try.prog 63 #[.func (.func 95) #[] #[.pointer (some ⟨gp, 0, none⟩), .pointer (some ⟨gn, 0, none⟩)]] w6 fun e w' => ∃ v, e = .returned v ∧ Kd.R (Kd.int .i64) 3 w' w6.heap.size (fun _ => True) v (routeS l oid i time) ∧ Below w.heap.size w w' ∧ w'.heap[gf]? = some (.cells #[.bool (routeE l oid i time)] 4 (0, 0))) := ⟨by
      have hB35 := below_step HB34.out HB45.out
      have hB36 := below_step hB35 hB56
      have hB46 := below_step HB45.out hB56
      obtain ⟨z1, z2, z3, z4, z5, z6⟩ := HSZ.out
      have z7 := hB35.size
      have z8 := blk_lt HX5.out
      have z9 := blk_lt HM24.out
      have z10 := blk_lt HO24.out
      have z11 := HB45.out.size
      have z12 := HG2.out
      have z13 := HGT.out
      have z14 := HBW.out.size
      refine route_collect w w1.heap.size wc.heap.size g cap gm go gf gr gx gt gm2 go2 gp gn l oid time i w6 hil HCK.out.1 HCK.out.2 HS.out ⟨Kd.R_below HRM.out hB36, blk_below HM3.out hB36, blk_below HO3.out hB36, blk_below HGF3.out hB36, blk_below HGR3.out hB36, blk_below HX5.out hB56, blk_below HT3.out hB36, blk_below HM24.out hB46, blk_below HO24.out hB46, hn, ?_⟩ hp (below_step HB3.out hB36) ?_ ?_
      · exact ⟨by omega, by omega, z13.2, by omega, by omega⟩
      · exact ⟨by omega, by omega, z13.1, by omega, by omega⟩
      · exact ⟨by omega, by omega, by omega, by omega, by omega, by omega, by omega, by omega, Ne.symm hgpn⟩⟩
    have HB6 := Aside0.mk (below_step HB3.out (below_step (below_step HB34.out HB45.out) hB56))
    clear hp hn hgp hgn hgpn hB56
    go_wp2_with fail
    refine HCO.out.mono ?_
    rintro e w7 ⟨v, rfl, hR7, hB7, hF7⟩
    have HR7 := Aside0.mk (Kd.R_lower hR7 HB6.out.size)
    have HB7 := Aside0.mk hB7
    obtain ⟨fb, hfb⟩ : ∃ f, f = routeE l oid i time := ⟨_, rfl⟩
    rw [← hfb] at hF7 HV
    have k0 := blk_cell hF7 0
    simp at k0
    obtain ⟨U, cu, rfl⟩ := Kd.R_slice hR7
    clear hR7 hB7 hF7 hfb HCO
    go_wp2_with fail
    go_region
    all_goals
      go_wp2_with fail
      go_returns
      exact ⟨_, by rw [HV.out]; rfl, by rw [HV.out]; exact Kd.R_below HR7.out (below_drew (Below.refl _ _)), below_drew HB7.out⟩
end Go.Proofs.Ytjnceoohlcchnaa.Print
