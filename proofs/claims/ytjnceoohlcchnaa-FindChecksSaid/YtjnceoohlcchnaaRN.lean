/- FindChecks: for every two maps and number of places the statement answers true, and all read afterwards as before; without condition. -/
import Derived.Test.YtjnceoohlcchnaaRI
import Derived.Test.YtjnceoohlcchnaaRM
import Derived.Test.YtjnceoohlcchnaaRJ
import Derived.Deep.Strs
import Derived.Lib.LaidTab
import Derived.Test.YtjnceoohlcchnaaRows
import Derived.WalkKit
import Derived.ProofKit
import Derived.OpenShut
import Derived.ShutString
import Derived.ChangeOld
import Derived.Below
import Derived.SizedLaws
set_option linter.unusedVariables false
set_option linter.unusedSimpArgs false
/-! The law of checks, walked. -/
namespace Go.Proofs.Ytjnceoohlcchnaa.Print
open Go Go.RowKit Go.Deep Go.Proofs.YtjnceoohlcchnaaW.PrintWords Go.Proofs.YtjnceoohlcchnaaW.PrintLast Go.Proofs.YtjnceoohlcchnaaW.PrintMore

theorem short_new (p : Int) : Short (newF p).1 := by
  unfold newF
  split
  · next h =>
    refine ⟨by rw [show (newL p.toNat).length = p.toNat from List.length_replicate]; omega, fun x hx => ?_⟩
    rw [(List.mem_replicate.1 hx).2]
    exact ⟨Nat.zero_le _, Nat.zero_le _⟩
  · exact ⟨Nat.zero_le _, fun x hx => by cases hx⟩
theorem bound_both (p : Int) : ∃ r1 r2, find_Bound.f p = some (r1, r2) ∧ berylref17_Bound.f p = some (r1, r2) := by
  unfold find_Bound.f berylref17_Bound.f
  by_cases h1 : p < 1
  · exact ⟨0, 1, by rw [if_pos h1], by rw [if_pos h1]⟩
  · by_cases h2 : p > 16
    · exact ⟨0, 1, by rw [if_neg h1, if_pos h2], by rw [if_neg h1, if_pos h2]⟩
    · exact ⟨_, 0, by rw [if_neg h1, if_neg h2], by rw [if_neg h1, if_neg h2]⟩
set_option maxRecDepth 100000 in
set_option maxHeartbeats 8000000 in
theorem checks_walk (A : Option Addr) (c : Nat) (m : List S36) (B : Option Addr) (d : Nat) (n : List S36) (places : Int) (w : World) (hr : Kd.C k36 w A m.length m) (hc : m.length ≤ c) (hr2 : Kd.C k36 w B n.length n) (hd : n.length ≤ d) (hf : FitP m) (hf2 : FitP n) :
    Calls Try.prog 7 #[.slice A m.length c, .slice B n.length d, .int .i64 places] w fun e w' => e = .returned (.bool true) ∧ Below w.heap.size w w' := by
  have HR := Aside0.mk hr
  have HR2 := Aside0.mk hr2
  have HF := Aside0.mk hf
  have HF2 := Aside0.mk hf2
  clear hr hr2 hf hf2
  go_enter Try.func7, Try.ntmps7
  go_wp2_with fail
  refine (awake_any w).mono ?_
  rintro e w1 ⟨rfl, hB⟩
  have HB1 := Aside0.mk hB
  clear hB
  go_wp2_with fail
  refine (few_any A m.length c m w1 rfl (Kd.C_below HR.out HB1.out) hc HF.out).mono ?_
  rintro e w2 ⟨rfl, hB⟩
  have HB2 := Aside0.mk (below_step HB1.out hB)
  clear hB HB1
  cases hfw : fewB m with
  | false =>
    clear hfw
    go_wp2_with fail
    go_returns
    exact ⟨rfl, HB2.out⟩
  | true =>
  have HS := Aside0.mk (few_short hfw)
  clear hfw
  go_wp2_with fail
  refine (few_any B n.length d n w2 rfl (Kd.C_below HR2.out HB2.out) hd HF2.out).mono ?_
  rintro e w3 ⟨rfl, hB⟩
  have HB3 := Aside0.mk (below_step HB2.out hB)
  clear hB HB2
  cases hfw : fewB n with
  | false =>
    clear hfw
    go_wp2_with fail
    go_returns
    exact ⟨rfl, HB3.out⟩
  | true =>
  have HS2 := Aside0.mk (few_short hfw)
  clear hfw
  go_wp2_with fail
  refine (New_any places w3).mono ?_
  rintro e w4 ⟨Aa, ca, rfl, hca, hCa, hB⟩
  have HB4 := Aside0.mk (below_step HB3.out hB)
  have HA4 := Aside0.mk hCa
  clear hB hCa HB3
  go_wp2_with fail
  refine (rnew_any places w4).mono ?_
  rintro e w5 ⟨Ab, cb, rfl, hcb, hCb, hB⟩
  have HB5 := Aside0.mk (below_step HB4.out hB)
  have HA5 := Aside0.mk (Kd.C_below HA4.out hB)
  have HC5 := Aside0.mk hCb
  clear hB hCb HB4 HA4
  have HSN := Aside0.mk (short_new places)
  obtain ⟨r1, r2, hb1, hb2⟩ := bound_both places
  have HBF := Aside0.mk (And.intro hb1 hb2)
  clear hb1 hb2
  obtain ⟨N, e0, hN⟩ : ∃ N e, newF places = (N, e) := ⟨_, _, rfl⟩
  rw [hN] at hca hcb HA5 HC5 HSN ⊢
  dsimp only at hca hcb HA5 HC5 HSN ⊢
  clear hN
  go_wp2_with fail
  refine (find_Bound.calls places r1 r2 w5 HBF.out.1).mono ?_
  rintro e wx ⟨rfl, ⟨nd, rfl⟩⟩
  obtain ⟨w6, hw6⟩ : ∃ W, W = w5.drewN nd := ⟨_, rfl⟩
  rw [← hw6]
  have hB56 : Below w5.heap.size w5 w6 := by rw [hw6]; exact pw_below_drewN (Below.refl _ _) nd
  clear hw6
  go_wp2_with fail
  refine (berylref17_Bound.calls places r1 r2 w6 HBF.out.2).mono ?_
  rintro e wx ⟨rfl, ⟨nd2, rfl⟩⟩
  obtain ⟨w7, hw7⟩ : ∃ W, W = w6.drewN nd2 := ⟨_, rfl⟩
  rw [← hw7]
  have hB57 : Below w5.heap.size w5 w7 := by rw [hw7]; exact pw_below_drewN hB56 nd2
  have HB7 := Aside0.mk (below_step HB5.out hB57)
  have HA7 := Aside0.mk (Kd.C_below HA5.out hB57)
  have HC7 := Aside0.mk (Kd.C_below HC5.out hB57)
  clear hw7 hB56 hB57 HB5 HA5 HC5 HBF
  go_wp2_with fail
  refine (check_any A m.length c m w7 rfl (Kd.C_below HR.out HB7.out) hc HS.out).mono ?_
  rintro e w8 ⟨rfl, hB⟩
  have HB8 := Aside0.mk (below_step HB7.out hB)
  have HA8 := Aside0.mk (Kd.C_below HA7.out hB)
  have HC8 := Aside0.mk (Kd.C_below HC7.out hB)
  clear hB HB7 HA7 HC7
  go_wp2_with fail
  refine (rcheck_any A m.length c m w8 rfl (Kd.C_below HR.out HB8.out) hc HS.out).mono ?_
  rintro e w9 ⟨rfl, hB⟩
  rw [rcheck_is]
  have HB9 := Aside0.mk (below_step HB8.out hB)
  have HA9 := Aside0.mk (Kd.C_below HA8.out hB)
  have HC9 := Aside0.mk (Kd.C_below HC8.out hB)
  clear hB HB8 HA8 HC8
  go_wp2_with fail
  refine (rsame_any Aa Ab N.length ca N.length cb N N w9 rfl rfl HA9.out HC9.out HSN.out).mono ?_
  rintro e w10 ⟨rfl, hB⟩
  rw [sameBy_refl postE_refl]
  have HB10 := Aside0.mk (below_step HB9.out hB)
  clear hB HB9 HA9 HC9
  go_wp2_with fail
  refine (Same_any A B m.length c n.length d m n w10 rfl rfl (Kd.C_below HR.out HB10.out) (Kd.C_below HR2.out HB10.out) HS.out).mono ?_
  rintro e w11 ⟨rfl, hB⟩
  have HB11 := Aside0.mk (below_step HB10.out hB)
  clear hB HB10
  go_wp2_with fail
  refine (rsame_any A B m.length c n.length d m n w11 rfl rfl (Kd.C_below HR.out HB11.out) (Kd.C_below HR2.out HB11.out) HS.out).mono ?_
  rintro e w12 ⟨rfl, hB⟩
  have HB12 := Aside0.mk (below_step HB11.out hB)
  clear hB HB11
  go_wp2_with fail
  refine (Same_any A A m.length c m.length c m m w12 rfl rfl (Kd.C_below HR.out HB12.out) (Kd.C_below HR.out HB12.out) HS.out).mono ?_
  rintro e w13 ⟨rfl, hB⟩
  rw [sameBy_refl postE_refl]
  have HB13 := Aside0.mk (below_step HB12.out hB)
  clear hB HB12
  go_wp2_with fail
  go_returns
  exact ⟨rfl, HB13.out⟩
end Go.Proofs.Ytjnceoohlcchnaa.Print

/-! A hint, a row of hints, or of triples, handed in. -/
namespace Go.Proofs.Ytjnceoohlcchnaa.Print
open Go Go.ChangeShapes Go.WideShapes Go.ChangeAt Go.RowKit Go.Deep Go.Proofs.YtjnceoohlcchnaaW.PrintWords Go.Proofs.YtjnceoohlcchnaaW.PrintLast Go.Proofs.YtjnceoohlcchnaaW.PrintMore
section
variable {H : Type} {enc : TypeId × Value → H} {W : World} {held : Bool}
set_option maxRecDepth 100000 in
theorem lift_hint {v : Value} {base : Nat} {d : DataW H} {ps : List MemPlace} (ho : Value.okWide Try.prog W .any base 31 v) (h : DataW.Trod enc Try.prog W 0 (fun _ => true) held 31 v d ps) : ∃ x : S31, v = .agg #[.int .i64 x.f0, .int .i64 x.f1, .int .i64 x.f2] := by
  obtain ⟨cs, rfl, hs⟩ := okWide_struct Try.underlying31 ho
  obtain ⟨fuel, hf⟩ := h
  rw [show Try.prog.cellsOf 31 = 3 from by kernel_rfl] at hs
  obtain ⟨cs⟩ := cs
  match cs, hs with
  | [v0, v1, v2], _ =>
    obtain ⟨y0, y1, y2, n, _, _, g0, g1, g2⟩ := trod_struct3 Try.underlying31 (show DataW.trod enc Try.prog W 0 (fun _ => true) held fuel 31 [v0, v1, v2] = some (d, ps) from by simpa [Value.cells] using hf)
    rw [show Try.prog.cellsOf 3 = 1 from by kernel_rfl] at g0 g1 g2
    simp at g0 g1 g2
    obtain ⟨z0, e0, _, _⟩ := DataW.trod_int Try.underlying3 g0
    obtain ⟨z1, e1, _, _⟩ := DataW.trod_int Try.underlying3 g1
    obtain ⟨z2, e2, _, _⟩ := DataW.trod_int Try.underlying3 g2
    simp at e0 e1 e2
    subst e0 e1 e2
    exact ⟨⟨z0, z1, z2⟩, rfl⟩
theorem lift_hintsT {a : Option Addr} {len cap : Nat} {d : DataW H} {ps : List MemPlace} (h : DataW.Trod enc Try.prog W 0 (fun _ => true) held 34 (.slice a len cap) d ps) (hz : ∀ n ∈ d.weights Try.prog 34, n ≤ reachBytes) :
    ∃ l : List S31, l.length = len ∧ len ≤ cap ∧ Kd.C k31 W a len l ∧ len ≤ 140737488355328 := by
  obtain ⟨fuel, hf⟩ := h
  exact lift_hints (fuel := fuel) (d := d) (ps := ps) (by simpa [Value.cells] using hf) hz
set_option maxRecDepth 100000 in
theorem lift_trips {a : Option Addr} {len cap : Nat} {d : DataW H} {ps : List MemPlace} (h : DataW.Trod enc Try.prog W 0 (fun _ => true) held 55 (.slice a len cap) d ps) :
    ∃ l : List S31, l.length = len ∧ len ≤ cap ∧ Kd.C k31 W a len l := by
  obtain ⟨fuel, hf⟩ := h
  rcases open_slice Try.underlying55 hf with ⟨hcs, _⟩ | ⟨x, l', c', m, n, D, Pl, hcs, _, hl, hm, hmm, hx, hcell⟩
  · simp [Value.cells] at hcs
    obtain ⟨rfl, rfl, rfl⟩ := hcs
    exact ⟨[], rfl, Nat.le_refl _, Kd.C_nil _ _⟩
  · simp [Value.cells] at hcs
    obtain ⟨rfl, rfl, rfl⟩ := hcs
    simp only [if_true] at hmm
    subst hmm
    rw [show Try.prog.cellsOf 59 = 3 from by kernel_rfl] at hcell
    have each : ∀ i, i < len → ∃ y : S31, W.cell? (x.add (i * 3)) = some (.int .i64 y.f0) ∧ W.cell? (x.add (i * 3 + 1)) = some (.int .i64 y.f1) ∧ W.cell? (x.add (i * 3 + 2)) = some (.int .i64 y.f2) := by
      intro i hi
      obtain ⟨cs', h1, h2⟩ := hcell i (by omega)
      obtain ⟨_, hlen, hc⟩ := World.cells?_some h1
      cases n with
      | zero => simp [DataW.trod] at h2
      | succ n =>
        simp only [DataW.trod, Try.underlying59] at h2
        split at h2
        · obtain ⟨xs, hmm, hx⟩ := Option.map_eq_some_iff.1 h2
          obtain ⟨b0, _, f0⟩ := Lib.mapM_at hmm 0 0 rfl
          obtain ⟨b1, _, f1⟩ := Lib.mapM_at hmm 1 1 rfl
          obtain ⟨b2, _, f2⟩ := Lib.mapM_at hmm 2 2 rfl
          rw [show Try.prog.cellsOf 3 = 1 from by kernel_rfl] at f0 f1 f2
          match cs', hlen with
          | [v0, v1, v2], _ =>
            obtain ⟨z0, e0, _⟩ := DataW.trod_int Try.underlying3 f0
            obtain ⟨z1, e1, _⟩ := DataW.trod_int Try.underlying3 f1
            obtain ⟨z2, e2, _⟩ := DataW.trod_int Try.underlying3 f2
            have g0 := hc 0 (by simp)
            have g1 := hc 1 (by simp)
            have g2 := hc 2 (by simp)
            rw [Go.Deep.add_add] at g0 g1 g2
            simp at e0 e1 e2 g0 g1 g2
            exact ⟨⟨z0, z1, z2⟩, by rw [← e0]; exact g0, by rw [← e1]; exact g1, by rw [← e2]; exact g2⟩
        · cases h2
    haveI : Inhabited S31 := ⟨⟨0, 0, 0⟩⟩
    obtain ⟨y, hy⟩ := choose_lt each
    refine ⟨(List.range len).map y, by simp, hl, ⟨by simp, by unfold maxLen at hm; omega, fun _ => ⟨x, rfl, fun j p hj => ?_⟩⟩⟩
    rw [List.getElem?_map] at hj
    obtain ⟨i, hi, rfl⟩ := Option.map_eq_some_iff.1 hj
    obtain ⟨hjl, hji⟩ := List.getElem?_eq_some_iff.1 hi
    simp at hjl hji
    subst hji
    obtain ⟨e0, e1, e2⟩ := hy j hjl
    refine ⟨_, rfl, k31_mk W (y j), fun i u hu => ?_⟩
    match i, hu with
    | 0, hu => cases hu; exact e0
    | 1, hu => cases hu; exact e1
    | 2, hu => cases hu; exact e2
end
end Go.Proofs.Ytjnceoohlcchnaa.Print

namespace Go.Proofs.Ytjnceoohlcchnaa.findChecks
open Go Go.ChangeShapes Go.WideShapes Go.ChangeAt Go.RowKit Go.Proofs.Ytjnceoohlcchnaa.Print
open Go.Proofs.YtjnceoohlcchnaaW.PrintWords
theorem own : ownKnob Try.prog.godebug = none := by kernel_rfl
theorem laidOut : laidOutB Try.prog = true := by kernel_rfl

theorem small {H : Type} {ts : List TypeId} {ds : List (DataW H)} (hsz : (DataW.weightsEach Try.prog ts ds).all (· ≤ reachBytes) = true) {j : Nat} {t : TypeId} {d : DataW H} (ht : ts[j]? = some t) (hd : ds[j]? = some d) : ∀ n ∈ d.weights Try.prog t, n ≤ reachBytes := by
  intro n hn
  have := List.all_eq_true.1 hsz _ (DataW.weights_mem_each ht hd n hn)
  simpa using this


set_option maxRecDepth 100000 in
theorem lifted (os : Os) (started : os.Started) (H : Type) (enc : TypeId × Value → H) :
    ReturnsInHanded {} Try.checked os 7 .any (Rows.findChecksSpec.pre6 enc Try.prog Try.f7 Rows.findChecksRow.domain false) (Rows.findChecksSpec.post enc Try.prog Try.f7 false true false false) := by
  refine returnsInHanded_of_change_sized (C := Try.checked) own started (by kernel_rfl) Try.func7
    (ChangeSpec.witness6 (enc := enc) (C := Try.checked) false ⟨#[], #[.slice none 0 0, .slice none 0 0, .int .i64 0], []⟩ 8 (by kernel_rfl) (by kernel_rfl) (by kernel_rfl) (by kernel_rfl)) ?_
  intro W base args ds gs before hval0 hW hcnd hsz0 _
  have hsz : (DataW.weightsEach Try.prog (Try.f7.params.toList ++ Rows.findChecksSpec.plain.varTypes Try.prog) (ds ++ gs)).all (· ≤ reachBytes) = true := hsz0
  have hval : ∀ (j : Nat) t v, Try.f7.params[j]? = some t → args[j]? = some v → Value.okWide Try.prog W .any base t v := hval0
  have hW' := hW
  obtain ⟨p, q, hA0, hV, rfl, hfz, hnd⟩ := hW
  have hA : DataW.TrodAll enc Try.prog W 0 (fun _ => true) true Try.f7.params.toList args.toList ds p := hA0
  rw [Try.params7] at hA hval hsz
  obtain ⟨v0, vs0, d0, ds0, p0, q0, hargs, rfl, rfl, h0, r0⟩ := trodAll_cons hA
  obtain ⟨v1, vs1, d1, ds1, p1, q1, rfl, rfl, rfl, h1, r1⟩ := trodAll_cons r0
  obtain ⟨v2, vs2, d2, ds2, p2, q2, rfl, rfl, rfl, h2, r2⟩ := trodAll_cons r1
  obtain ⟨rfl, rfl, rfl⟩ := trodAll_nil r2
  obtain rfl : args = #[v0, v1, v2] := by cases args; simp_all
  obtain ⟨rfl, rfl⟩ := trodVars_none hV
  obtain ⟨a0, len0, cap0, rfl⟩ := okWide_slice Try.underlying22 (hval 0 22 v0 rfl rfl)
  obtain ⟨a1, len1, cap1, rfl⟩ := okWide_slice Try.underlying22 (hval 1 22 v1 rfl rfl)
  obtain ⟨a2, rfl, rfl, rfl, w2⟩ := open_int Try.underlying3 (hval 2 3 v2 rfl rfl) h2
  have k0 := h0
  have lt0 : ∀ x ∈ p0, x.block < W.heap.size := by obtain ⟨m, hm⟩ := k0; exact DataW.trod_lt m _ _ _ hm
  have k1 := h1
  have lt1 : ∀ x ∈ p1, x.block < W.heap.size := by obtain ⟨m, hm⟩ := k1; exact DataW.trod_lt m _ _ _ hm
  obtain ⟨l0, e0, hc0, hr0, hz0, hw0⟩ := lift_posts h0 (small hsz (j := 0) rfl rfl)
  subst e0
  obtain ⟨l1, e1, hc1, hr1, hz1, hw1⟩ := lift_posts h1 (small hsz (j := 1) rfl rfl)
  subst e1
  clear hA0 hval0 hsz0 hsz
  refine (checks_walk a0 cap0 l0 a1 cap1 l1 a2 W hr0 hc0 hr1 hc1 hw0 hw1).mono fun e W' ⟨he, bel⟩ => ?_
  subst he
  exact ⟨_, rfl, _, _, _, [], _, [], hW', trodAll_mk1 (shut_bool Try.underlying4 _), (trodAll_cons_mk (Below.trod laidOut (by kernel_rfl) (of_decide_eq_true (by kernel_rfl)) k0 bel lt0) (trodAll_cons_mk (Below.trod laidOut (by kernel_rfl) (of_decide_eq_true (by kernel_rfl)) k1 bel lt1) (trodAll_cons_mk (shut_int Try.underlying3 w2) trodAll_mk0))), rfl, bel.frame _, fun h => by cases h⟩
theorem over : Rows.findChecksRow.holds Try.pinned (OpenSpec.ofChange Rows.findChecksSpec) :=
  OpenClaim.holds_of_wide 7 Try.f7 rfl rfl rfl rfl rfl rfl rfl ⟨rfl, rfl, rfl, rfl, rfl⟩ rfl rfl rfl rfl rfl (by kernel_rfl) Try.func7 (by kernel_rfl)
    (of_decide_eq_true (by kernel_rfl)) (by unfold Func.isWrapper; first | (rw [if_pos (by decide +kernel)]; kernel_rfl) | (rw [if_neg (by decide +kernel)]; exact ⟨rfl, rfl⟩))
    (fun os started H enc _ => lifted os started H enc)
theorem proved : Rows.FindChecksSaid := over
#print axioms proved
end Go.Proofs.Ytjnceoohlcchnaa.findChecks
namespace Go.Proofs.Ytjnceoohlcchnaa
/-- The row, under a short name, for the claim. -/
theorem findChecks_holds : Rows.FindChecksSaid := findChecks.proved
end Go.Proofs.Ytjnceoohlcchnaa
