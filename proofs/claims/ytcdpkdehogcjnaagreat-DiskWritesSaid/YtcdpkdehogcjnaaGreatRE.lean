/- Records as they lie; what saving and dropping make of them, and what a change comes to for whatever closure: contracts, whatever the input. -/
import Derived.Test.YtcdpkdehogcjnaaGreatR0
import Derived.Deep.SlicePairs
import Derived.SizedLaws
import Derived.WalkKit
import Derived.ProofKit
import Derived.OpenShut
import Derived.ChangeOld
import Derived.Below
import Derived.Test.YtcdpkdehogcjnaaGreatRA
import Derived.Test.YtcdpkdehogcjnaaGreatRD
import Derived.Test.YtcdpkdehogcjnaaGreatRC
import Derived.Test.YtcdpkdehogcjnaaGreatR9
import Derived.Deep.DeepCutAuto
import Derived.Deep.CutBlock
import Derived.Lib.SliceRun
set_option linter.unusedVariables false
set_option linter.unusedSimpArgs false
namespace Go.Proofs.YtcdpkdehogcjnaaGreat.Print
open Go Go.ChangeShapes Go.WideShapes Go.ChangeAt Go.RowKit Go.Deep Go.Proofs.YtcdpkdehogcjnaaGreatW.PrintWords Go.Proofs.YtcdpkdehogcjnaaGreatW.PrintLast Go.Proofs.YtcdpkdehogcjnaaGreatW.PrintMore
/-- what is asked of a record -/
def RecFits (x : S40) : Prop := (Lit.int .i64 x.f0).wf = true ∧ x.f1.length ≤ 140737488351232 ∧ ∀ b ∈ x.f1, (Lit.int .u8 b).wf = true
theorem weights_all {H : Type} {P : Program} {e : TypeId} : ∀ {l : List (DataW H)} {d : DataW H}, d ∈ l → ∀ n ∈ d.weights P e, n ∈ DataW.weightsAll P e l
 | [], _, h, _, _ => by cases h
 | a :: l, d, h, n, hn => by
  rw [DataW.weightsAll, List.mem_append]
  rcases List.mem_cons.1 h with rfl | h
  ·exact .inl hn
  ·exact .inr (weights_all h n hn)
section
variable {H : Type} {enc : TypeId × Value → H} {W : World} {held : Bool}
set_option maxRecDepth 100000 in
theorem lift_bytes {fuel : Nat} {v : Value} {d : DataW H} {ps : List MemPlace} (h : DataW.trod enc Tryz.prog W 0 (fun _ => true) held fuel 22 [v] = some (d, ps)) (hz : ∀ n ∈ d.weights Tryz.prog 22, n ≤ reachBytes) :
  ∃ (A : Option Addr) (c : Nat) (xs : List Int), v = .slice A xs.length c ∧ xs.length ≤ c ∧ Kd.C (Kd.int .u8) W A xs.length xs ∧ xs.length ≤ 140737488351232 ∧ ∀ b ∈ xs, (Lit.int .u8 b).wf = true := by
 rcases open_ints Tryz.underlying22 Tryz.underlying5 (by kernel_rfl) h with ⟨hcs, _⟩ | ⟨a, len, cap, zs, hcs, _, hl, hm, hzl, hx, hcell, hwf⟩
 ·cases hcs
  exact ⟨none, 0, [], rfl, Nat.le_refl _, Kd.C_nil _ _, by simp, by simp⟩
 ·cases hcs
  simp only [if_true] at hzl
  obtain ⟨hd, _⟩ := Prod.mk.inj hx
  subst hd
  have hlen : (zs.take len).length = len := by simp; omega
  have hw := hz ((lits (H := H) .u8 (zs.take len)).length + (lits (H := H) .u8 (zs.drop len)).length |>.mul (Tryz.prog.bytesOf 5)) (by
   rw [DataW.weights, Tryz.underlying22]
   exact List.mem_cons_self ..)
  rw [show Tryz.prog.bytesOf 5 = 1 from by kernel_rfl] at hw
  have hw2 : zs.length ≤ reachBytes := by
   simp [lits] at hw
   omega
  refine ⟨some a, cap, zs.take len, by rw [hlen], by omega, ?_, by rw [hlen]; unfold reachBytes at hw2; omega, fun b hb => hwf b (List.mem_of_mem_take hb)⟩
  rw [hlen]
  refine ⟨hlen, by unfold maxLen at hm; omega, fun _ => ⟨a, rfl, fun j p hj => ⟨[.int .u8 p], rfl, rfl, fun i u hu => ?_⟩⟩⟩
  cases i with
  | succ i => simp at hu
  | zero =>
   simp at hu
   subst hu
   show W.cell? (a.add (j * 1 + 0)) = _
   rw [Nat.mul_one, Nat.add_zero]
   have h1 : zs[j]? = some p := by
    rw [List.getElem?_take] at hj
    split at hj
    ·exact hj
    ·cases hj
   have h2 := hcell j (List.getElem?_eq_some_iff.1 h1).1
   rw [List.getD_eq_getElem?_getD, h1] at h2
   exact h2
set_option maxRecDepth 100000 in
theorem lift_recs {a : Option Addr} {len cap : Nat} {d : DataW H} {ps : List MemPlace} (h : DataW.Trod enc Tryz.prog W 0 (fun _ => true) held 23 (.slice a len cap) d ps) (hz : ∀ n ∈ d.weights Tryz.prog 23, n ≤ reachBytes) :
  ∃ l : List S40, l.length = len ∧ len ≤ cap ∧ Kd.C k40 W a len l ∧ len * 32 ≤ 140737488351232 ∧ ∀ x ∈ l, RecFits x := by
 obtain ⟨fuel, hf⟩ := h
 rcases open_slice_pairs Tryz.underlying23 Tryz.underlying40 (by kernel_rfl) rfl rfl (by kernel_rfl) (by kernel_rfl) hf with ⟨hcs, _⟩ | ⟨x, l', c', m, n, V0, V1, D0, D1, P0, P1, hcs, _, hl, hm, hmm, hx, hcell⟩
 ·simp [Value.cells] at hcs
  obtain ⟨rfl, rfl, rfl⟩ := hcs
  exact ⟨[], rfl, Nat.le_refl _, Kd.C_nil _ _, by simp, by simp⟩
 ·simp [Value.cells] at hcs
  obtain ⟨rfl, rfl, rfl⟩ := hcs
  simp only [if_true] at hmm
  subst hmm
  obtain ⟨hd, _⟩ := Prod.mk.inj hx
  subst hd
  rw [DataW.weights, Tryz.underlying23] at hz
  have hsz := hz _ (List.mem_cons_self ..)
  rw [show Tryz.prog.bytesOf 40 = 32 from by kernel_rfl] at hsz
  simp at hsz
  have each : ∀ i, i < len → ∃ y : S40 × Option Addr × Nat, V0 i = .int .i64 y.1.f0 ∧ V1 i = .slice y.2.1 y.1.f1.length y.2.2 ∧ y.1.f1.length ≤ y.2.2 ∧ Kd.C (Kd.int .u8) W y.2.1 y.1.f1.length y.1.f1 ∧ RecFits y.1 := by
   intro i hi
   obtain ⟨_, _, g0, g1⟩ := hcell i (by omega)
   obtain ⟨z, hz0, hz1, hzw⟩ := DataW.trod_int Tryz.underlying3 g0
   have hw1 : ∀ n ∈ (D1 i).weights Tryz.prog 22, n ≤ reachBytes := by
    intro n hn
    refine hz n (List.mem_cons_of_mem _ (List.mem_append_left _ (weights_all (d := .agg [D0 i, D1 i]) (List.mem_map.2 ⟨i, List.mem_range.2 hi, rfl⟩) n ?_)))
    rw [DataW.weights, Tryz.underlying40]
    show n ∈ DataW.weightsEach Tryz.prog [3, 22] [D0 i, D1 i]
    simp [DataW.weightsEach, hn]
   obtain ⟨A1, c1, xs, hv, hc1, hC, hsz1, hwf⟩ := lift_bytes g1 hw1
   refine ⟨(⟨z, xs⟩, A1, c1), by simpa using hz0, hv, hc1, hC, hzw, hsz1, hwf⟩
  haveI : Inhabited (S40 × Option Addr × Nat) := ⟨(⟨0, []⟩, none, 0)⟩
  obtain ⟨y, hy⟩ := choose_lt each
  refine ⟨(List.range len).map fun i => (y i).1, by simp, hl, ⟨by simp, by unfold maxLen at hm; omega, fun _ => ⟨x, rfl, fun j p hj => ?_⟩⟩, by unfold reachBytes at hsz; omega, fun q hq => ?_⟩
  ·rw [List.getElem?_map] at hj
   obtain ⟨i, hi, rfl⟩ := Option.map_eq_some_iff.1 hj
   obtain ⟨hjl, hji⟩ := List.getElem?_eq_some_iff.1 hi
   simp at hjl hji
   subst hji
   obtain ⟨e0, e1, e2, e3, e4⟩ := hy j hjl
   obtain ⟨q0, q1, _, _⟩ := hcell j (by omega)
   refine ⟨_, rfl, k40_mk W (y j).1 e2 e3, fun i u hu => ?_⟩
   match i, hu with
   | 0, hu =>
    simp at hu
    subst hu
    rw [e0] at q0
    exact q0
   | 1, hu =>
    simp at hu
    subst hu
    rw [e1] at q1
    exact q1
  ·obtain ⟨i, hi, rfl⟩ := List.mem_map.1 hq
   exact (hy i (List.mem_range.1 hi)).2.2.2.2
end
end Go.Proofs.YtcdpkdehogcjnaaGreat.Print
namespace Go.Proofs.YtcdpkdehogcjnaaGreat.Print
open Go Go.RowKit Go.Deep Go.Proofs.YtcdpkdehogcjnaaGreatW.PrintWords Go.Proofs.YtcdpkdehogcjnaaGreatW.PrintLast Go.Proofs.YtcdpkdehogcjnaaGreatW.PrintMore
def sliceV (x : Option Addr × Nat × Nat) : Value := .slice x.1 x.2.1 x.2.2
def kSl : Kd (Option Addr × Nat × Nat) := Kd.scalar sliceV (fun _ => rfl)
abbrev Raw := Int × (Option Addr × Nat × Nat)
def kRaw : Kd Raw := Kd.pair (Kd.int .i64) kSl
theorem kRaw_mk (w : World) (r : Raw) : kRaw.K w r [.int .i64 r.1, sliceV r.2] := ⟨[.int .i64 r.1], [sliceV r.2], rfl, rfl, rfl⟩
theorem kRaw_open {w : World} {r : Raw} {cs : List Value} (h : kRaw.K w r cs) : cs = [.int .i64 r.1, sliceV r.2] := by
 obtain ⟨c1, c2, rfl, h1, h2⟩ := h
 have h1 : c1 = [.int .i64 r.1] := h1
 have h2 : c2 = [sliceV r.2] := h2
 rw [h1, h2]
 rfl
theorem kRaw_mkM (w : World) (base : Nat) (ok : Nat → Prop) (r : Raw) : kRaw.M w base ok r [.int .i64 r.1, sliceV r.2] := ⟨[.int .i64 r.1], [sliceV r.2], rfl, rfl, rfl⟩
/-- what a raw record holds -/
def RawIs (w : World) (r : Raw) (x : S40) : Prop := r.1 = x.f0 ∧ r.2.2.1 = x.f1.length ∧ x.f1.length ≤ r.2.2.2 ∧ Kd.C (Kd.int .u8) w r.2.1 x.f1.length x.f1
theorem RawIs.below {w w1 : World} {r : Raw} {x : S40} (h : RawIs w r x) (hb : Below w.heap.size w w1) : RawIs w1 r x := ⟨h.1, h.2.1, h.2.2.1, Kd.C_below h.2.2.2 hb⟩
def RawsAre (w : World) (rs : List Raw) (xs : List S40) : Prop := rs.length = xs.length ∧ ∀ (i : Nat) (r : Raw) (x : S40), rs[i]? = some r → xs[i]? = some x → RawIs w r x
theorem raws_of {w : World} {A : Option Addr} {n : Nat} {xs : List S40} (h : Kd.C k40 w A n xs) : ∃ rs : List Raw, Kd.C kRaw w A n rs ∧ RawsAre w rs xs := by
 obtain ⟨h1, h2, h3⟩ := h
 by_cases h0 : xs.length = 0
 ·have hx : xs = [] := List.eq_nil_of_length_eq_zero h0
  subst hx
  exact ⟨[], ⟨h1, h2, fun h => absurd h (by have : n = 0 := h1.symm; omega)⟩, rfl, fun i r x hr _ => by simp at hr⟩
 ·obtain ⟨ad, e, hc⟩ := h3 (by omega)
  have each : ∀ j, j < xs.length → ∃ r : Raw, ∃ x, xs[j]? = some x ∧ RawIs w r x ∧ w.cell? (ad.add (j * 2)) = some (.int .i64 r.1) ∧ w.cell? (ad.add (j * 2 + 1)) = some (sliceV r.2) := by
   intro j hj
   obtain ⟨cs, _, hk, hcell⟩ := hc j xs[j] (List.getElem?_eq_getElem hj)
   obtain ⟨A1, c1, rfl, hl, hC⟩ := k40_open hk
   exact ⟨(xs[j].f0, A1, xs[j].f1.length, c1), xs[j], List.getElem?_eq_getElem hj, ⟨rfl, rfl, hl, hC⟩, hcell 0 _ rfl, hcell 1 _ rfl⟩
  haveI : Inhabited Raw := ⟨(0, none, 0, 0)⟩
  obtain ⟨y, hy⟩ := choose_lt each
  refine ⟨(List.range xs.length).map y, ⟨by simp [h1], by simpa using h2, fun _ => ⟨ad, e, fun j p hj => ?_⟩⟩, by simp, fun i r x hr hx => ?_⟩
  ·rw [List.getElem?_map] at hj
   obtain ⟨i, hi, rfl⟩ := Option.map_eq_some_iff.1 hj
   obtain ⟨hjl, hji⟩ := List.getElem?_eq_some_iff.1 hi
   simp at hjl hji
   subst hji
   obtain ⟨x, _, _, q0, q1⟩ := hy j hjl
   refine ⟨_, rfl, kRaw_mk w (y j), fun i u hu => ?_⟩
   match i, hu with
   | 0, hu => simp at hu; subst hu; exact q0
   | 1, hu => simp at hu; subst hu; exact q1
  ·rw [List.getElem?_map] at hr
   obtain ⟨j, hj, rfl⟩ := Option.map_eq_some_iff.1 hr
   obtain ⟨hjl, hji⟩ := List.getElem?_eq_some_iff.1 hj
   simp at hjl hji
   subst hji
   obtain ⟨x', hx', q, _⟩ := hy i hjl
   rw [hx'] at hx
   cases hx
   exact q
theorem C_of_raws {w : World} {A : Option Addr} {n : Nat} {rs : List Raw} {xs : List S40} (h : Kd.C kRaw w A n rs) (hr : RawsAre w rs xs) : Kd.C k40 w A n xs := by
 obtain ⟨h1, h2, h3⟩ := h
 obtain ⟨hl, hi⟩ := hr
 refine ⟨by omega, by omega, fun h0 => ?_⟩
 obtain ⟨ad, e, hc⟩ := h3 (by omega)
 refine ⟨ad, e, fun j p hj => ?_⟩
 have hjl := (List.getElem?_eq_some_iff.1 hj).1
 have hjr : rs[j]? = some (rs[j]'(by omega)) := List.getElem?_eq_getElem _
 obtain ⟨q1, q2, q3, q4⟩ := hi j _ p hjr hj
 obtain ⟨cs, hlen, hk, hcell⟩ := hc j _ hjr
 obtain rfl := kRaw_open hk
 refine ⟨_, rfl, k40_mk w p q3 q4, fun i u hu => ?_⟩
 match i, hu with
 | 0, hu => simp at hu; subst hu; have := hcell 0 _ rfl; rw [q1] at this; exact this
 | 1, hu => simp at hu; subst hu; have := hcell 1 _ rfl; rw [sliceV, q2] at this; exact this
theorem grow_raw (m : Nat) (w : World) (hm : m ≤ 1000000000000) :
  Calls Tryz.prog 55 #[.slice none 0 0, .int .i64 m] w fun e w' => ∃ v, e = .returned v ∧ Kd.R kRaw 40 w' w.heap.size (fun _ => True) v [] ∧ Below w.heap.size w w' := by
 go_enter Tryz.func55, Tryz.ntmps55
 by_cases h0 : m = 0
 ·subst h0
  go_wp2_with fail
  go_returns
  exact ⟨_, rfl, Kd.R_nil _ _ _ _ _, Below.refl _ _⟩
 ·have hp : decide (0 < m) = true := decide_eq_true (by omega)
  go_wp2_with (at_builtin; refine Kd.R_append_zeros kRaw (w0 := w) w.heap.size rfl (.tmp 20) (.tmp 21) 23 3 40 (.agg #[.int .i64 0, .slice none 0 0]) 32 rfl Tryz.underlying23 Tryz.underlying3 info40 rfl (by decide) (by decide) (.slice none 0 0) [] ((0, none, 0, 0) : Raw) (m : Int) (fun _ => True) rfl rfl ?aM (fun _ _ => trivial) ?aO ?aP ?aB ?aS ?aL ?_)
  case aM => exact kRaw_mkM _ _ _ _
  case aO => exact Kd.R_nil _ _ _ _ _
  case aP => omega
  case aB => exact Below.refl _ _
  case aS => exact Nat.le_refl _
  case aL => simp; omega
  intro v1 w1 hR hB _ _
  obtain ⟨A1, c1, rfl⟩ := Kd.R_slice hR
  have H1 := Aside0.mk hR
  have HB1 := Aside0.mk hB
  clear hR hB
  go_wp2_with fail
  go_returns
  exact ⟨_, rfl, by have := Kd.R_take H1.out (m := 0) (by simp); simpa using this, HB1.out⟩
theorem rows_raw {w : World} {A : Option Addr} {l : List (List Raw)} (h : Kd.C (Kd.slice 40 kRaw) w A l.length l) (i : Nat) (hi : i < l.length) :
  ∃ ad A0 c0 x, A = some ad ∧ l[i]? = some x ∧ w.cell? (ad.add i) = some (.slice A0 x.length c0) ∧ x.length ≤ c0 ∧ Kd.C kRaw w A0 x.length x := by
 obtain ⟨ad, c, e, _, hK, hc0⟩ := Kd.C_get h ([] : List Raw) (i : Int) (by omega) (by omega)
 have hc : ∀ j u, c[j]? = some u → w.cell? (ad.add ((i : Int).toNat * 1 + j)) = some u := hc0
 obtain ⟨A0, c0, rfl, l0, g0⟩ := hK
 have hx : l[i]? = some (l.getD (i : Int).toNat []) := by
  rw [List.getElem?_eq_getElem hi]
  simp [List.getD_eq_getElem?_getD, List.getElem?_eq_getElem hi]
 exact ⟨ad, A0, c0, _, e, hx, by have hq := hc 0 _ rfl; simpa using hq, l0, g0⟩
theorem flat_step_raw {l : List (List Raw)} {i : Nat} {x : List Raw} (h : l[i]? = some x) : (l.take (i + 1)).flatten = (l.take i).flatten ++ x := by
 rw [List.take_add_one, h]
 simp
theorem flat_le_raw {l : List (List Raw)} (i : Nat) : (l.take i).flatten.length ≤ l.flatten.length := by
 have h : l.flatten = (l.take i).flatten ++ (l.drop i).flatten := by rw [← List.flatten_append, List.take_append_drop]
 rw [h, List.length_append]; omega
theorem concat_raw (A0 : Option Addr) (c0 : Nat) (l0 : List (List Raw)) (w : World) (hr0 : Kd.C (Kd.slice 40 kRaw) w A0 l0.length l0) (hc0 : l0.length ≤ c0) (hl : l0.flatten.length ≤ 1000000000000) :
  Calls Tryz.prog 30 #[.slice A0 l0.length c0] w fun e w' => ∃ v0_ : Value, e = .returned v0_ ∧ Kd.R kRaw 40 w' w.heap.size (fun _ => True) v0_ l0.flatten ∧ Below w.heap.size w w' := by
 have hmx := Kd.C_max hr0
 have HR := Aside0.mk hr0
 clear hr0
 go_enter Tryz.func30, Tryz.ntmps30
 go_wp2_with fail
 go_loop [3, 11] (fun s k => ∃ i n : Nat, k = .int .i64 i ∧ s = .int .i64 n ∧ i ≤ l0.length ∧ Aside0 (n = (l0.take i).flatten.length)) (fun _ k => l0.length - (intOf k).toNat)
 case atStart => exact ⟨0, 0, rfl, rfl, by omega, ⟨by simp⟩⟩
 case round =>
  obtain ⟨i, n, rfl, rfl, hi, HN⟩ := hrel
  by_cases hlt : i < l0.length
  ·have hd : decide (i < l0.length) = true := decide_eq_true hlt
   obtain ⟨ad, A1, c1, x, rfl, hx, h0, hc1, hC⟩ := rows_raw HR.out i hlt
   have hfl := flat_le_raw (l := l0) (i + 1)
   rw [flat_step_raw hx, List.length_append, ← HN.out] at hfl
   have hneg : decide ((n : Int) + (x.length : Int) < 0) = false := decide_eq_false (by omega)
   have hsum : n + x.length ≤ 1000000000000 := by omega
   have HX := Aside0.mk hx
   clear hx hC hfl
   go_wp2_with fail
   go_round
   case measure => simp [intOf]; omega
   case rel => exact ⟨i + 1, n + x.length, by go_num, by go_num, by omega, ⟨by rw [flat_step_raw HX.out, List.length_append, ← HN.out]⟩⟩
  ·have hd : decide (i < l0.length) = false := decide_eq_false hlt
   have hn : n ≤ 1000000000000 := by rw [HN.out, List.take_of_length_le (by omega)]; exact hl
   clear HN hlt hi
   go_wp2_with fail
   refine (grow_raw n w hn).mono ?_
   rintro e w1 ⟨v1, rfl, hR1, hB1⟩
   have HR1 := Aside0.mk hR1
   have HB1 := Aside0.mk hB1
   clear hR1 hB1
   go_wp2_with fail
   go_loopw [6, 27] (fun v k wr => ∃ i : Nat, k = .int .i64 i ∧ i ≤ l0.length ∧ Aside0 (Below w.heap.size w wr) ∧ Aside0 (Kd.R kRaw 40 wr w.heap.size (fun _ => True) v (l0.take i).flatten)) (fun _ k _ => l0.length - (intOf k).toNat)
   case atStart => exact ⟨0, rfl, by omega, HB1, ⟨by simpa using HR1.out⟩⟩
   case round =>
    obtain ⟨j, rfl, hj, HB2, HR2⟩ := hrel
    by_cases hlt : j < l0.length
    ·have hd2 : decide (j < l0.length) = true := decide_eq_true hlt
     obtain ⟨ad, A1, c1, x, rfl, hx, h0, hc1, hC⟩ := rows_raw (Kd.C_below HR.out HB2.out) j hlt
     have hfl := flat_le_raw (l := l0) (j + 1)
     rw [flat_step_raw hx, List.length_append] at hfl
     have HFL : Aside0 ((l0.take j).flatten.length + x.length ≤ 1000000000000) := ⟨by omega⟩
     have HX := Aside0.mk hx
     have HC := Aside0.mk hC
     clear hx hC hfl
     go_wp2_with (at_builtin; refine Kd.R_append_rows kRaw (Rr := kRaw.K wr) (w0 := w) w.heap.size rfl (.tmp 31) (.tmp 32) 23 40 (.agg #[.int .i64 0, .slice none 0 0]) 32 rfl Tryz.underlying23 info40 rfl (by decide) (by decide) _ (l0.take j).flatten x A1 x.length c1 (fun _ => True) (fun _ => False) rfl rfl HR2.out HC.out ?aK (fun _ hk => hk.elim) (fun _ _ => trivial) HB2.out HB2.out.size ?aL ?_)
     case aK => intro x cs hk; rw [kRaw_open hk]; exact kRaw_mkM _ _ _ _
     case aL => have := HFL.out; omega
     intro v2 w2 hR hB _ _
     have HR3 := Aside0.mk hR
     have HB3 := Aside0.mk hB
     clear hR hB
     go_wp2_with fail
     go_roundw
     case measure => simp [intOf]; omega
     case rel => exact ⟨j + 1, by go_num, by omega, HB3, ⟨by rw [flat_step_raw HX.out]; exact HR3.out⟩⟩
    ·have hd2 : decide (j < l0.length) = false := decide_eq_false hlt
     go_wp2_with fail
     go_returns
     exact ⟨_, rfl, by have := HR2.out; rwa [List.take_of_length_le (by omega)] at this, HB2.out⟩
open Go Go.RowKit Go.Proofs.YtcdpkdehogcjnaaGreatW.PrintWords Go.Proofs.YtcdpkdehogcjnaaGreatW.PrintLast Go.Proofs.YtcdpkdehogcjnaaGreatW.PrintMore
/-- rows and blocks of other types abide -/
theorem R_apart {α : Type} {d : Kd α} {e base : Nat} {ok : Nat → Prop} {W W' : World} {v : Value} {xs : List α} {row : Option Nat} (h : d.R e W base ok v xs) (hg : W.grownBy W' row)
  (hr : ∀ r, row = some r → ∃ t cells, W.heap[r]? = some (.cells cells t (0, 0)) ∧ ∀ q ∈ e :: d.E, q ≠ t) : d.R e W' base ok v xs := by
 refine Kd.R_mono (Kd.R_step (Kd.R_bound h) (fun k hk hl => hg.block k hl (fun he => ?_))) (fun _ hk => hk.1)
 obtain ⟨_, _, _, q, hq, cells, hc⟩ := hk
 obtain ⟨t, cells', ho, hn⟩ := hr k he.symm
 rw [hc] at ho
 injection ho with ho
 injection ho with _ h2 _
 exact hn q hq h2
theorem blk_apart {W W' : World} {row : Option Nat} {k : Nat} {cells : Array Value} {t : TypeId} {z : Nat × Nat} (h : W.heap[k]? = some (.cells cells t z)) (hg : W.grownBy W' row)
  (hr : ∀ r, row = some r → ∃ t' cells', W.heap[r]? = some (.cells cells' t' (0, 0)) ∧ t ≠ t') : W'.heap[k]? = some (.cells cells t z) := by
 refine (hg.block k (blk_lt h) (fun he => ?_)).trans h
 obtain ⟨t', cells', ho, hn⟩ := hr k he.symm
 rw [h] at ho
 injection ho with ho
 injection ho with _ h2 _
 exact hn h2
theorem R_typed {α : Type} {d : Kd α} {e base : Nat} {ok : Nat → Prop} {W : World} {v : Value} {xs : List α} (h : d.R e W base ok v xs) (r : Nat) (hr : v.ownBlock = some r) : ∃ cells, W.heap[r]? = some (.cells cells e (0, 0)) := by
 obtain ⟨inner, ho⟩ := Kd.R_own h
 exact own_typed ho r hr
theorem R_base {α : Type} {d : Kd α} {e base : Nat} {ok : Nat → Prop} {W : World} {v : Value} {xs : List α} (h : d.R e W base ok v xs) (r : Nat) (hr : v.ownBlock = some r) : base ≤ r := by
 obtain ⟨inner, ho⟩ := Kd.R_own h
 exact own_base ho r hr
theorem chain_all (d : List Int) (nb : Nat) (hd : nb * 64 ≤ d.length) : ∀ (m a : Nat) (used : List Nat) (all : List Int) (u : List Nat) (al : List Int), chainF d nb m a used all = some (u, al) → al.length = all.length + 62 * m ∧ ((∀ x ∈ used, x < nb) → ∀ x ∈ u, x < nb)
 | 0, a, used, all, u, al, h => by
  unfold chainF at h
  split at h
  ·cases h; exact ⟨by omega, fun h => h⟩
  ·cases h
 | m + 1, a, used, all, u, al, h => by
  unfold chainF at h
  split at h
  ·rename_i hc
   obtain ⟨h1, h2⟩ := chain_all d nb hd m _ _ _ _ _ h
   have hb : (blkL d a).length = 64 := by
    have : (a + 1) * 64 ≤ nb * 64 := Nat.mul_le_mul_right 64 hc.2.1
    unfold blkL
    rw [List.length_take, List.length_drop]
    omega
   refine ⟨by rw [h1, List.length_append, List.length_drop, hb]; omega, fun hu => h2 (fun x hx => ?_)⟩
   rcases List.mem_append.1 hx with hx | hx
   ·exact hu x hx
   ·rw [List.mem_singleton.1 hx]; exact hc.2.1
  ·cases h
theorem chain_bytes (d : List Int) (nb : Nat) (hb : IsBytes d) : ∀ (m a : Nat) (used : List Nat) (all : List Int) (u : List Nat) (al : List Int), chainF d nb m a used all = some (u, al) → IsBytes all → IsBytes al
 | 0, a, used, all, u, al, h, hy => by
  unfold chainF at h
  split at h
  ·cases h; exact hy
  ·cases h
 | m + 1, a, used, all, u, al, h, hy => by
  unfold chainF at h
  split at h
  ·refine chain_bytes d nb hb m _ _ _ _ _ h (fun x hx => ?_)
   rcases List.mem_append.1 hx with hx | hx
   ·exact hy x hx
   ·exact bytes_drop (bytes_take (bytes_drop hb _) _) _ x hx
  ·cases h
def castL (u : List Nat) : List Int := u.map fun (a : Nat) => (a : Int)
def longV (xs : List Int) : Int := if numb (xs.take 8) > 4611686018427387904 then -1 else numb (xs.take 8)
/-- records of bytes, unchecked -/
def parseF : Nat → List Int → Option (List S40)
 | 0, xs => if xs.length = 0 then some [] else none
 | f + 1, xs => if xs.length = 0 then some [] else if xs.length < 10 then none else if (recS xs).toNat + 10 > xs.length then none else
  (parseF f (xs.drop (10 + (recS xs).toNat))).map (fun l => (⟨longV xs, (xs.drop 10).take (recS xs).toNat⟩ : S40) :: l)
theorem recS_nat (xs : List Int) (hb : IsBytes xs) : ∃ k : Nat, recS xs = k ∧ k < 65536 := by
 obtain ⟨k, h1, h2⟩ := numb_nat ((xs.drop 8).take 2) (bytes_take (bytes_drop hb 8) 2) 2 (by simp; omega)
 exact ⟨k, h1, h2⟩
theorem asked_zero (l : List S40) : askedR (some 0) l = askedR none l := by
 cases l with
 | nil => rfl
 | cons r l =>
  rw [askedR_cons, askedR_cons]
  by_cases h1 : r.f0 < 1
  ·rw [if_pos h1, if_pos h1]
  rw [if_neg h1, if_neg h1]
  simp only
  rw [if_neg (show ¬ r.f0 ≤ 0 by omega)]
theorem recs_parse : ∀ (f : Nat) (last : Int) (xs : List Int), IsBytes xs → recsF f last xs = (parseF f xs).bind (fun l => if askedR (some last) l = 0 then some l else none)
 | 0, last, xs, _ => by
  unfold recsF parseF
  split
  ·rw [Option.bind_some, askedR_nil, if_pos rfl]
  ·rfl
 | f + 1, last, xs, hb => by
  obtain ⟨sz, hsz, hszb⟩ := recS_nat xs hb
  have ih := recs_parse f (recN xs) (xs.drop (10 + (recS xs).toNat)) (bytes_drop hb _)
  rw [hsz, Int.toNat_natCast] at ih
  have hN0 := (numb_bound _ (xs.take 8) rfl (bytes_take hb 8)).1
  unfold recsF parseF
  by_cases h0 : xs.length = 0
  ·rw [if_pos h0, if_pos h0, Option.bind_some, askedR_nil, if_pos rfl]
  rw [if_neg h0, if_neg h0, hsz, Int.toNat_natCast]
  by_cases h10 : xs.length < 10
  ·rw [if_pos h10, if_neg (fun h => by have := h.1; omega)]; rfl
  rw [if_neg h10]
  by_cases hs : sz + 10 > xs.length
  ·rw [if_pos hs, if_neg (fun h => by have := h.2.2.2.2.2; rw [hsz] at this; omega)]; rfl
  rw [if_neg hs, ih]
  have hlen : ((xs.drop 10).take sz).length = sz := by simp; omega
  cases hp : parseF f (xs.drop (10 + sz)) with
  | none => simp
  | some l =>
   simp only [Option.map_some, Option.bind_some]
   obtain ⟨r, hrr⟩ : ∃ r : S40, r = ⟨longV xs, (xs.drop 10).take sz⟩ := ⟨_, rfl⟩
   have e0 : r.f0 = longV xs := by rw [hrr]
   have e1 : r.f1.length = sz := by rw [hrr]; exact hlen
   rw [← hrr]
   by_cases hr : RecOk xs.length last xs
   ·obtain ⟨r1, r2, r3, r4, r5, r6⟩ := id hr
    have hv : longV xs = recN xs := by unfold longV; exact if_neg (by unfold recN at r3; omega)
    have hA : askedR (some last) (r :: l) = askedR (some (recN xs)) l := by
     rw [askedR_cons, e0, e1, hv, if_neg (by omega), if_neg (by omega), if_neg (by omega)]
     exact if_neg (by omega)
    rw [if_pos hr, hA, hrr, hv]
    split
    ·rfl
    ·rfl
   ·have hA : askedR (some last) (r :: l) = 1 := by
     rw [askedR_cons, e0, e1]
     by_cases hv : numb (xs.take 8) > 4611686018427387904
     ·rw [longV, if_pos hv]; rfl
     ·have hv' : longV xs = recN xs := by unfold longV; exact if_neg hv
      have hv2 : recN xs ≤ 4611686018427387904 := by unfold recN; omega
      rw [hv']
      by_cases c1 : recN xs < 1
      ·rw [if_pos c1]
      rw [if_neg c1, if_neg (show ¬ recN xs > 4611686018427387904 by omega)]
      by_cases c3 : (sz : Int) > 4000
      ·rw [if_pos c3]
      rw [if_neg c3]
      by_cases c4 : recN xs ≤ last
      ·exact if_pos c4
      ·exact absurd ⟨by omega, by omega, hv2, by omega, by omega, by omega⟩ hr
    rw [if_neg hr, hA]
    rfl
theorem recsF_len : ∀ (f : Nat) (last : Int) (xs : List Int) (l : List S40), recsF f last xs = some l → l.length ≤ f
 | 0, last, xs, l, h => by
  unfold recsF at h
  split at h
  ·cases h; exact Nat.le_refl _
  ·cases h
 | f + 1, last, xs, l, h => by
  unfold recsF at h
  split at h
  ·cases h; exact Nat.zero_le _
  split at h
  ·rw [Option.map_eq_some_iff] at h
   obtain ⟨l', h, rfl⟩ := h
   have := recsF_len f _ _ _ h
   simp only [List.length_cons]
   omega
  ·cases h
theorem head_recs {xs : List Int} {nb i : Nat} {st : HSt} (h : headF xs nb i = some st) : st.recs.length ≤ (nb - 2) / 2 * 62 := by
 unfold headF at h
 simp only at h
 split at h
 ·rename_i ho
  unfold headG at h
  split at h
  ·cases h
  ·split at h
   ·rw [Option.map_eq_some_iff] at h
    obtain ⟨rs, hr, rfl⟩ := h
    have h1 := recsF_len _ _ _ _ hr
    have h2 := ho.2.2.2.2.2.1
    have h3 := ho.2.2.2.2.1
    have h4 := Nat.mul_le_mul_right 62 h3
    exact Nat.le_trans h1 (Nat.le_trans h2 h4)
   ·cases h
 ·cases h
theorem disk_recs {xs : List Int} {j : Nat} {st : HSt} (h : diskF xs = some (j, st)) : st.recs.length ≤ 8000 := by
 obtain ⟨_, _, h256, _, hh, _⟩ := disk_facts h
 have h1 := head_recs hh
 generalize xs.length / 64 = nb at h1 h256
 omega
def sortL (zs : List Int) : List Int := zs.mergeSort fun x y => decide (x ≤ y)
theorem sort_own {W : World} {base g n c : Nat} {zs : List Int} (h : Kd.R (Kd.int .i64) 3 W base (fun _ => True) (.slice (some ⟨g, 0, none⟩) n c) zs) (hn : zs.length < 4611686018427387904) :
  Calls Tryz.prog 31 #[.slice (some ⟨g, 0, none⟩) n c] W fun e w' => e = .returned (.tuple #[]) ∧ Kd.R (Kd.int .i64) 3 w' base (fun _ => True) (.slice (some ⟨g, 0, none⟩) n c) (sortL zs) ∧ W.grownBy w' (some g) := by
 obtain ⟨rfl, hc, hC⟩ := Kd.R_reads' h
 have hlt : g < W.heap.size := Kd.R_lt h g rfl
 obtain ⟨cells, hb⟩ := R_typed h g rfl
 refine (Tryz.slices_Sort_int g 0 c zs W (fun j hj => ?_) hlt hn).mono ?_
 ·obtain ⟨ad, x, e, hx, hX⟩ := cellN hC j (by simpa using hj) (Nat.le_refl _)
  injection e with e
  subst e
  have hj' : j < zs.length := by simpa using hj
  have ex : zs[j] = x := by have := hX.out; rw [List.getElem?_eq_getElem hj'] at this; exact Option.some.inj this
  refine ⟨?_, by rw [Nat.zero_add]; exact blk_frozen hb j⟩
  rw [getElem!_pos _ j hj]
  simp only [List.getElem_toArray, ex]
  have ea : (⟨g, 0, none⟩ : Addr).add j = ⟨g, 0 + j, none⟩ := by unfold Addr.add; by_cases h0 : j = 0 <;> simp [h0]
  rw [ea] at hx
  exact hx
 ·rintro e w' ⟨he, m, os, hw⟩
  refine ⟨he, ?_, ?_⟩
  ·obtain ⟨q1, q2⟩ := Kd.own_of_R h
   rcases q2 with ⟨q2, _⟩ | ⟨g', cap, cur, q2, q3, q4, q5, q6, q7, q8⟩
   ·cases q2
   ·injection q2 with q2 _ q2c
    injection q2 with q2
    injection q2 with q2
    subst q2
    subst q2c
    have hsl : (sortL zs).length = zs.length := by simp [sortL]
    have hheap : w'.heap[g]? = some (.cells (Sort.putCells (Value.int .i64) 0 (sortL zs).toArray cur) 3 (0, 0)) := by
     rw [hw]
     show ((Sort.mapBlock (Sort.ahead W m) g (Sort.putCells (Value.int .i64) 0 (sortL zs).toArray)).heap ++ os)[g]? = _
     rw [Array.getElem?_append_left (by simpa [Sort.mapBlock, Sort.ahead] using hlt)]
     show (W.heap.modify g (Sort.onCells (Sort.putCells (Value.int .i64) 0 (sortL zs).toArray)))[g]? = _
     rw [Array.getElem?_modify, if_pos rfl, q4]
     rfl
    refine Kd.R_of_own ⟨by simp [encs], .inr ⟨g, c, _, by rw [hsl], q3, hheap, by rw [hsl]; exact q5, q6, ?_, ?_⟩⟩ (fun _ _ => trivial)
    ·simp [Sort.putCells, q7]
    ·apply List.ext_getElem?
     intro j
     rw [List.getElem?_take, Array.getElem?_toList]
     by_cases hj : j < (sortL zs).length * 1
     ·rw [if_pos hj]
      rw [Nat.mul_one] at hj
      have hjc : j < cur.size := by rw [q7, Nat.mul_one]; omega
      unfold Sort.putCells
      rw [Array.getElem?_mapIdx, Array.getElem?_eq_getElem hjc]
      simp only [Option.map_some, Nat.zero_le, true_and, Nat.zero_add, Nat.sub_zero, List.size_toArray]
      rw [if_pos hj, getElem!_pos _ j (by simpa using hj)]
      simp [encs, List.getElem?_eq_getElem hj]
     ·rw [if_neg hj, List.getElem?_eq_none (by simp [encs]; omega)]
  ·rw [hw]
   refine ⟨rfl, rfl, rfl, ?_, fun k hk hne => ?_⟩
   ·show W.heap.size ≤ ((W.heap.modify g (Sort.onCells (Sort.putCells (Value.int .i64) 0 (sortL zs).toArray))) ++ os).size
    simp
   show ((W.heap.modify g (Sort.onCells (Sort.putCells (Value.int .i64) 0 (sortL zs).toArray))) ++ os)[k]? = _
   rw [Array.getElem?_append_left (by simpa using hk), Array.getElem?_modify, if_neg (fun e => hne (by rw [e]))]
theorem ins_nil (W : World) : Calls Tryz.prog 74 #[.slice none 0 0, .int .i64 0, .int .i64 0] W fun e w' => e = .returned (.tuple #[]) ∧ w' = W := by
 go_enter Tryz.func74, Tryz.ntmps74
 go_wp2_with fail
 go_loop [6] (fun v => v = .int .i64 1) (fun _ => 0)
 case atStart => rfl
 case round =>
  obtain rfl := hrel
  go_wp2_with fail
  go_returns
  exact ⟨rfl, rfl⟩
theorem pdq_nil (W : World) (l : Int) : Calls Tryz.prog 56 #[.slice none 0 0, .int .i64 0, .int .i64 0, .int .i64 l] W fun e w' => e = .returned (.tuple #[]) ∧ w' = W := by
 go_enter Tryz.func56, Tryz.ntmps56
 go_wp2_with fail
 go_loop [1, 2] (fun u v => u = .int .i64 0 ∧ v = .int .i64 0) (fun _ _ => 0)
 case atStart => exact ⟨rfl, rfl⟩
 case round =>
  obtain ⟨rfl, rfl⟩ := hrel
  go_wp2_with fail
  refine (ins_nil _).mono ?_
  rintro e w' ⟨rfl, rfl⟩
  go_wp2_with fail
  go_returns
  exact ⟨rfl, rfl⟩
theorem sort_nil (W : World) : Calls Tryz.prog 31 #[.slice none 0 0] W fun e w' => e = .returned (.tuple #[]) ∧ w' = W := by
 go_enter Tryz.func31, Tryz.ntmps31
 go_wp2_with fail
 refine (Tryz.bits_Len _ _ (by decide) (by decide)).mono ?_
 rintro e w' ⟨rfl, rfl⟩
 go_wp2_with fail
 refine (pdq_nil _ _).mono ?_
 rintro e w' ⟨rfl, rfl⟩
 go_wp2_with fail
 go_returns
 exact ⟨rfl, rfl⟩
theorem sort_any {W : World} {base : Nat} {v : Value} {zs : List Int} (h : Kd.R (Kd.int .i64) 3 W base (fun _ => True) v zs) (hn : zs.length < 4611686018427387904) :
  Calls Tryz.prog 31 #[v] W fun e w' => e = .returned (.tuple #[]) ∧ Kd.R (Kd.int .i64) 3 w' base (fun _ => True) v (sortL zs) ∧ W.grownBy w' v.ownBlock := by
 rcases (Kd.own_of_R h).2 with ⟨q1, q2⟩ | ⟨g', cap, cur, q2, _⟩
 ·have hz : zs = [] := by have := q2; simpa [encs] using this
  subst hz
  subst q1
  refine (sort_nil W).mono ?_
  rintro e w' ⟨rfl, rfl⟩
  exact ⟨rfl, by simpa [sortL] using Kd.R_nil _ _ _ _ _, World.grownBy.refl _ _⟩
 ·subst q2
  exact sort_own h hn
abbrev Sl := Option Addr × Nat × Nat
/-- the map of records: keys in the order of their first coming -/
def mapF (l : List Raw) : List (Int × Sl) := l.foldl (fun m r => mput m r.1 r.2) []
def valM (m : List (Int × Sl)) : List (Int × Value) := m.map fun p => (p.1, sliceV p.2)
theorem mapF_snoc (l : List Raw) (r : Raw) : mapF (l ++ [r]) = mput (mapF l) r.1 r.2 := by simp [mapF, List.foldl_append]
theorem valM_put (m : List (Int × Sl)) (k : Int) (v : Sl) : valM (mput m k v) = mput (valM m) k (sliceV v) := by
 induction m with
 | nil => rfl
 | cons p m ih =>
  obtain ⟨k', v'⟩ := p
  simp only [mput, valM, List.map_cons]
  split
  ·rfl
  ·rw [List.map_cons]; exact congrArg _ ih
theorem valM_get (m : List (Int × Sl)) (k : Int) : mget (valM m) k = (mget m k).map sliceV := by
 induction m with
 | nil => rfl
 | cons p m ih =>
  obtain ⟨k', v'⟩ := p
  by_cases h : k = k'
  ·simp [mget, valM, h]
  ·have e1 : mget (valM ((k', v') :: m)) k = mget (valM m) k := by simp [mget, valM, h]
   have e2 : mget ((k', v') :: m) k = mget m k := by simp [mget, h]
   rw [e1, e2, ih]
def keysM (m : List (Int × Sl)) : List Int := m.map (·.1)
theorem keys_put (m : List (Int × Sl)) (k : Int) (v : Sl) : keysM (mput m k v) = if (mget m k).isSome then keysM m else keysM m ++ [k] := by
 induction m with
 | nil => rfl
 | cons p m ih =>
  obtain ⟨k', v'⟩ := p
  by_cases h : k = k'
  ·subst h
   simp [mput, mget, keysM]
  ·have e2 : mget ((k', v') :: m) k = mget m k := by simp [mget, h]
   have e3 : mput ((k', v') :: m) k v = (k', v') :: mput m k v := by simp [mput, h]
   rw [e3, e2]
   have := ih
   simp only [keysM, List.map_cons] at this ⊢
   rw [this]
   split <;> simp
theorem keys_len (l : List Raw) : (keysM (mapF l)).length ≤ l.length := by
 have go : ∀ (l : List Raw) (m : List (Int × Sl)), (keysM (l.foldl (fun m r => mput m r.1 r.2) m)).length ≤ (keysM m).length + l.length := by
  intro l
  induction l with
  | nil => intro m; simp
  | cons r l ih =>
   intro m
   have h1 := ih (mput m r.1 r.2)
   have h2 := mput_len m r.1 r.2
   simp only [List.foldl_cons, List.length_cons, keysM, List.length_map] at h1 h2 ⊢
   omega
 simpa [mapF, keysM] using go l []
/-- what saving makes of records as they lie -/
def outRaw (m : List (Int × Sl)) (zs : List Int) : List Raw := zs.map fun n => (n, (mget m n).getD (none, 0, 0))
def saveRaw (l : List Raw) : List Raw := outRaw (mapF l) (sortL (keysM (mapF l)))
theorem out_step (m : List (Int × Sl)) (zs : List Int) (i : Nat) (x : Int) (h : zs[i]? = some x) : outRaw m (zs.take (i + 1)) = outRaw m (zs.take i) ++ [(x, (mget m x).getD (none, 0, 0))] := by
 unfold outRaw
 rw [List.take_add_one, h, List.map_append]
 rfl
theorem valM_val (m : List (Int × Sl)) (x : Int) : (mget (valM m) x).getD (.slice none 0 0) = sliceV ((mget m x).getD (none, 0, 0)) := by
 rw [valM_get]
 cases mget m x <;> rfl
theorem two_rows_C {w : World} {g : Nat} {Ao A1 : Option Addr} {no co n1 c1 : Nat} {ro r1 : List Raw} {t : TypeId} (hg : w.heap[g]? = some (.cells #[.slice Ao no co, .slice A1 n1 c1] t (0, 0))) (ho : Kd.C kRaw w Ao no ro) (hco : no ≤ co) (h1 : Kd.C kRaw w A1 n1 r1) (hc1 : n1 ≤ c1) :
  Kd.C (Kd.slice 40 kRaw) w (some ⟨g, 0, none⟩) [ro, r1].length [ro, r1] := by
 have e0 : ro.length = no := C_len ho
 have e1 : r1.length = n1 := C_len h1
 subst e0 e1
 refine ⟨rfl, by simp, fun _ => ⟨_, rfl, fun j p hj => ?_⟩⟩
 match j, hj with
 | 0, hj =>
  simp at hj
  subst hj
  refine ⟨[.slice Ao ro.length co], rfl, ⟨Ao, co, rfl, hco, ho⟩, fun i u hu => ?_⟩
  match i, hu with
  | 0, hu => simp at hu; subst hu; have := blk_cell hg 0; simp at this; exact this
 | 1, hj =>
  simp at hj
  subst hj
  refine ⟨[.slice A1 r1.length c1], rfl, ⟨A1, c1, rfl, hc1, h1⟩, fun i u hu => ?_⟩
  match i, hu with
  | 0, hu => simp at hu; subst hu; have := blk_cell hg 1; simp at this; exact this
/-- the loop over the records -/
def S1Rel (w : World) (mb : Nat) (L : List Raw) (A2 : Option Addr) (c2 : Nat) (v k : Value) (wr : World) : Prop :=
 ∃ i : Nat, k = .int .i64 i ∧ i ≤ L.length ∧ Aside0 (Kd.R (Kd.int .i64) 3 wr w.heap.size (fun _ => True) v (keysM (mapF (L.take i)))) ∧ Aside0 (MapAt kInt wr mb (valM (mapF (L.take i)))) ∧
  Aside0 (Kd.R kRaw 40 wr w.heap.size (fun _ => True) (.slice A2 L.length c2) L) ∧ Aside0 (Below w.heap.size w wr) ∧ Aside0 (w.heap.size ≤ mb)
/-- the loop over the numbers -/
def S2Rel (w : World) (mb : Nat) (m : List (Int × Sl)) (zs : List Int) (An : Option Addr) (cn : Nat) (v k : Value) (wr : World) : Prop :=
 ∃ i : Nat, k = .int .i64 i ∧ i ≤ zs.length ∧ Aside0 (Kd.R kRaw 40 wr w.heap.size (fun _ => True) v (outRaw m (zs.take i))) ∧ Aside0 (MapAt kInt wr mb (valM m)) ∧
  Aside0 (Kd.R (Kd.int .i64) 3 wr w.heap.size (fun _ => True) (.slice An zs.length cn) zs) ∧ Aside0 (Below w.heap.size w wr)
theorem raw_at {W : World} {A : Option Addr} {n : Nat} {L : List Raw} (h : Kd.C kRaw W A n L) (i : Nat) (hi : i < L.length) : ∃ ad : Addr, A = some ad ∧ W.cell? (ad.add (i * 2)) = some (.int .i64 L[i].1) ∧ W.cell? ⟨(ad.add (i * 2)).block, (ad.add (i * 2)).off + 1, none⟩ = some (sliceV L[i].2) := by
 obtain ⟨h1, h2, h3⟩ := h
 obtain ⟨ad, e, hc⟩ := h3 (by omega)
 obtain ⟨cs, _, hk, hcell⟩ := hc i L[i] (List.getElem?_eq_getElem hi)
 obtain rfl := kRaw_open hk
 exact ⟨ad, e, hcell 0 _ rfl, by rw [← add_field _ _ 1 (by omega)]; exact hcell 1 _ rfl⟩
theorem save1_any (Ao : Option Addr) (no co : Nat) (ro : List Raw) (b : Nat) (A1 : Option Addr) (n1 c1 : Nat) (r1 : List Raw) (w : World) (ho : Kd.C kRaw w Ao no ro) (hco : no ≤ co) (hb : w.cell? ⟨b, 0, none⟩ = some (.slice A1 n1 c1)) (h1 : Kd.C kRaw w A1 n1 r1) (hc1 : n1 ≤ c1)
  (hl : ro.length + r1.length ≤ 1000000000) :
  Calls Tryz.prog 29 #[.slice Ao no co, .pointer (some ⟨b, 0, none⟩)] w fun e w' => ∃ v, e = .returned v ∧ Kd.R kRaw 40 w' w.heap.size (fun _ => True) v (saveRaw (ro ++ r1)) ∧ Below w.heap.size w w' := by
 have hbl : b < w.heap.size := World.block_lt_of_cell? w ⟨b, 0, none⟩ hb
 have kmm := @run_makeMap Tryz.prog
 have HO := Aside0.mk ho
 have H1 := Aside0.mk h1
 clear ho h1
 go_enter Tryz.func29, Tryz.ntmps29
 go_upto_region 3 with fail
 obtain ⟨mb, hmb⟩ : ∃ mb, mb = w.heap.size := ⟨_, rfl⟩
 rw [← hmb]
 obtain ⟨w1, hw1⟩ : ∃ w1, w1 = w.alloc (.map #[] 0) := ⟨_, rfl⟩
 rw [← hw1]
 have HB1 : Aside0 (Below w.heap.size w w1) := ⟨by rw [hw1]; exact below_alloc (Below.refl _ _) _⟩
 have HM1 : Aside0 (MapAt kInt w1 mb (valM (mapF []))) := ⟨by rw [hw1, hmb]; exact MapAt.made w⟩
 have HMB := Aside0.mk hmb
 have hb1 : w1.cell? ⟨b, 0, none⟩ = some (.slice A1 n1 c1) := (HB1.out.cell (p := ⟨b, 0, none⟩) hbl).trans hb
 clear hw1 hmb hb kmm
 go_wp2_with fail
 have hcc := concat_raw (some ⟨w1.heap.size, 0, none⟩) 2 [ro, r1] (w1.alloc (.cells #[.slice Ao no co, .slice A1 n1 c1] 23)) (two_rows_C (heap_alloc_new w1 _) (Kd.C_below HO.out (below_alloc HB1.out _)) hco (Kd.C_below H1.out (below_alloc HB1.out _)) hc1) (by simp) (by simp; omega)
 have HCC := Aside0.mk hcc
 clear hcc
 refine (HCC.out).mono ?_
 rintro e w2 ⟨v2, rfl, hR2, hB2⟩
 obtain ⟨L, hL⟩ : ∃ L, L = ro ++ r1 := ⟨_, rfl⟩
 have hfl : [ro, r1].flatten = L := by rw [hL]; simp
 rw [hfl] at hR2
 have hLl : L.length ≤ 1000000000 := by rw [hL, List.length_append]; exact hl
 obtain ⟨A2, c2, rfl⟩ := Kd.R_slice hR2
 have hB02 : Below w.heap.size w w2 := (below_alloc HB1.out _).trans (hB2.mono (by have := HB1.out.size; simp; omega))
 have HR2 : Aside0 (Kd.R kRaw 40 w2 w.heap.size (fun _ => True) (.slice A2 L.length c2) L) := ⟨Kd.R_lower hR2 (by have := HB1.out.size; simp; omega)⟩
 have hml := HM1.out.lt
 have HM2 : Aside0 (MapAt kInt w2 mb (valM (mapF []))) := ⟨HM1.out.move ((hB2.block mb (by simp; omega)).trans (Below.heap_alloc _ _ _ hml))⟩
 have HB2 := Aside0.mk hB02
 have HLL := Aside0.mk hLl
 have HLE := Aside0.mk hL
 clear hfl hL hR2 hB2 hB02 hml hLl hl HCC HM1 hb1
 go_wp2_with fail
 go_loopw [5, 19] (fun v k wr => S1Rel w mb L A2 c2 v k wr) (fun _ k _ => L.length - (intOf k).toNat)
 case atStart => exact ⟨0, rfl, by omega, ⟨Kd.R_nil _ _ _ _ _⟩, ⟨HM2.out⟩, HR2, HB2, ⟨by rw [HMB.out]; exact Nat.le_refl _⟩⟩
 case round =>
  obtain ⟨i, rfl, hi, HN, HM, HR, HB, HMB1⟩ := hrel
  by_cases hlt : i < L.length
  ·have hd : decide (i < L.length) = true := decide_eq_true hlt
   have hi9 : i < 1000000000 := by have := HLL.out; omega
   obtain ⟨ad, rfl, q0, q1⟩ := raw_at (Kd.R_reads' HR.out).2.2 i hlt
   obtain ⟨r, hr⟩ : ∃ r, r = L[i] := ⟨_, rfl⟩
   rw [← hr] at q0 q1
   have hstep : mapF (L.take (i + 1)) = mput (mapF (L.take i)) r.1 r.2 := by rw [List.take_succ_eq_append_getElem hlt, mapF_snoc, hr]
   have HST := Aside0.mk hstep
   obtain ⟨m, hm⟩ : ∃ m, m = mapF (L.take i) := ⟨_, rfl⟩
   have hkl := keys_len (L.take i)
   rw [← hm] at hkl
   have hkb : (keysM m).length ≤ 1000000000 := by have := HLL.out; rw [List.length_take] at hkl; omega
   have HKB := Aside0.mk hkb
   have HMM := Aside0.mk hm
   clear hstep hm hkl hkb hr
   obtain ⟨num, A, n, c⟩ := r
   simp only [sliceV] at q0 q1
   have hlk : ∀ ob, (Instr.lookup 59 (.map (some mb)) (.int .i64 num) true).run Tryz.prog (wr.alloc ob) = .ok (.tuple #[(mget (valM (mapF (L.take i))) num).getD (.slice none 0 0), .bool (mget (valM (mapF (L.take i))) num).isSome]) (wr.alloc ob) := fun ob =>
    run_lookup_ok (kInt_enc Tryz.underlying3) Tryz.underlying59 (HM.out.move (Below.heap_alloc _ ob _ HM.out.lt)) num (z := .slice none 0 0) (by kernel_rfl)
   obtain ⟨old, hold⟩ : ∃ old, old = (mget (valM (mapF (L.take i))) num).getD (.slice none 0 0) := ⟨_, rfl⟩
   obtain ⟨is, his⟩ : ∃ is, is = (mget (valM (mapF (L.take i))) num).isSome := ⟨_, rfl⟩
   rw [← hold, ← his] at hlk
   have HIS := Aside0.mk his
   clear hold his
   go_upto_region 7 with fail
   obtain ⟨g5, hg5⟩ : ∃ g5, g5 = wr.heap.size := ⟨_, rfl⟩
   obtain ⟨w5, hw5⟩ : ∃ w5, w5 = wr.alloc (.cells #[.int .i64 num, .slice A n c] 40) := ⟨_, rfl⟩
   rw [← hg5, ← hw5]
   have hb5 := heap_alloc_new wr (.cells #[.int .i64 num, .slice A n c] 40)
   rw [← hw5, ← hg5] at hb5
   have hB5 : Below wr.heap.size wr w5 := by rw [hw5]; exact below_alloc (Below.refl _ _) _
   have HN5 := Aside0.mk (Kd.R_step HN.out (fun k _ hl => hB5.block k hl))
   have HR5 := Aside0.mk (Kd.R_step HR.out (fun k _ hl => hB5.block k hl))
   have HM5 := Aside0.mk (HM.out.move (hB5.block mb HM.out.lt))
   have HB5 : Aside0 (Below w.heap.size w w5) := ⟨HB.out.trans (hB5.mono HB.out.size)⟩
   have HC5 := Aside0.mk hb5
   clear hw5 hg5 hB5 hlk q0 q1 HN HR HM HB hd
   have k0 := blk_cell hb5 0
   have k1 := blk_cell hb5 1
   simp at k0 k1
   clear hb5
   cases is with
   | true =>
    obtain ⟨w6, hup, hM6, hG6⟩ := run_mapUpdate (kInt_enc Tryz.underlying3) Tryz.underlying59 HM5.out num (.slice A n c)
    have hup : (Instr.mapUpdate 59 (.map (some mb)) (.int .i64 num) (.slice A n c)).run Tryz.prog w5 = .ok () w6 := hup
    have HM6 := Aside0.mk hM6
    have HG6 := Aside0.mk hG6
    clear hM6 hG6
    go_wp2_with fail
    go_roundw
    case measure => simp [intOf]; omega
    case rel =>
     have hro : ∀ r, some mb = some r → ∃ o : Obj, w5.heap[r]? = some o ∧ o.isCells = false := fun r hr => by
      injection hr with hr
      subst hr
      obtain ⟨es, cl, h, _⟩ := HM5.out
      exact ⟨_, h, rfl⟩
     refine ⟨i + 1, by go_num, by omega, ⟨?_⟩, ⟨?_⟩, ⟨R_other HR5.out HG6.out hro⟩, ⟨HB5.out.grown HG6.out HB5.out.size (fun k hk => by injection hk with hk; rw [← hk]; exact HMB1.out)⟩, HMB1⟩
     ·rw [HST.out, keys_put, if_pos (by have := HIS.out; rw [valM_get, Option.isSome_map] at this; exact this.symm)]
      exact R_other HN5.out HG6.out hro
     ·rw [HST.out, valM_put]
      exact HM6.out
   | false =>
    have hl5 : (keysM (mapF (L.take i))).length ≤ 1000000000 := by have := HKB.out; rwa [HMM.out] at this
    have HL5 := Aside0.mk hl5
    clear hl5
    go_wp2_with (at_builtin; refine Kd.R_append (Kd.int .i64) (w0 := w) w.heap.size rfl (.tmp 32) (.tmp 35) 24 3 (.int .i64 0) 8 rfl Tryz.underlying24 info3 rfl (by decide) (by omega) u5 (keysM (mapF (L.take i))) num [.int .i64 num] (fun _ => True) (fun _ => False) rfl rfl ?aP (fun _ hk => hk.elim) ?aF ?aO ?aB ?aS ?aL ?_)
    case aP => exact rfl
    case aO => exact HN5.out
    case aB => exact HB5.out
    case aS => exact HB5.out.size
    case aL => have := HL5.out; omega
    intro v6 w6 hN6 hB6 hG6 _
    have ht : ∀ r, u5.ownBlock = some r → ∃ cells, w5.heap[r]? = some (.cells cells 3 (0, 0)) := fun r hr => R_typed HN5.out r hr
    have HR6 := Aside0.mk (R_apart HR5.out hG6 (fun r hr => by obtain ⟨cells, h⟩ := ht r hr; exact ⟨_, cells, h, by decide⟩))
    have hc6 := blk_apart HC5.out hG6 (fun r hr => by obtain ⟨cells, h⟩ := ht r hr; exact ⟨_, cells, h, by decide⟩)
    have HM6 : Aside0 (MapAt kInt w6 mb (valM (mapF (L.take i)))) := ⟨HM5.out.move (hG6.block mb HM5.out.lt (fun he => by
     obtain ⟨cells, h⟩ := ht mb he.symm
     obtain ⟨es, cl, h2, _⟩ := HM5.out
     rw [h] at h2
     cases h2))⟩
    have HN6 := Aside0.mk hN6
    have HB6 := Aside0.mk hB6
    clear hN6 hB6 hG6 ht k0 k1
    have k0 := blk_cell hc6 0
    have k1 := blk_cell hc6 1
    simp at k0 k1
    clear hc6
    obtain ⟨w7, hup, hM7, hG7⟩ := run_mapUpdate (kInt_enc Tryz.underlying3) Tryz.underlying59 HM6.out num (.slice A n c)
    have hup : (Instr.mapUpdate 59 (.map (some mb)) (.int .i64 num) (.slice A n c)).run Tryz.prog w6 = .ok () w7 := hup
    have HM7 := Aside0.mk hM7
    have HG7 := Aside0.mk hG7
    clear hM7 hG7
    go_wp2_with fail
    go_roundw
    case measure => simp [intOf]; omega
    case rel =>
     have hro : ∀ r, some mb = some r → ∃ o : Obj, w6.heap[r]? = some o ∧ o.isCells = false := fun r hr => by
      injection hr with hr
      subst hr
      obtain ⟨es, cl, h, _⟩ := HM6.out
      exact ⟨_, h, rfl⟩
     refine ⟨i + 1, by go_num, by omega, ⟨?_⟩, ⟨?_⟩, ⟨R_other HR6.out HG7.out hro⟩, ⟨HB6.out.grown HG7.out HB6.out.size (fun k hk => by injection hk with hk; rw [← hk]; exact HMB1.out)⟩, HMB1⟩
     ·rw [HST.out, keys_put, if_neg (by have := HIS.out; rw [valM_get, Option.isSome_map] at this; rw [← this]; simp)]
      exact R_other HN6.out HG7.out hro
     ·rw [HST.out, valM_put]
      exact HM7.out
  ·have hd : decide (i < L.length) = false := decide_eq_false hlt
   obtain ⟨m, hm⟩ : ∃ m, m = mapF L := ⟨_, rfl⟩
   have hti : L.take i = L := List.take_of_length_le (by omega)
   have hkl := keys_len L
   rw [hti, ← hm] at HN HM
   rw [← hm] at hkl
   have HKL : Aside0 ((keysM m).length ≤ 1000000000) := ⟨by have := HLL.out; omega⟩
   have HMM := Aside0.mk hm
   clear hti hm hkl HR
   go_wp2_with fail
   refine (sort_any HN.out (by have := HKL.out; omega)).mono ?_
   rintro e w3 ⟨rfl, hR3, hG3⟩
   have ht : ∀ r, u5.ownBlock = some r → ∃ cells, wr.heap[r]? = some (.cells cells 3 (0, 0)) := fun r hr => R_typed HN.out r hr
   have HM3 : Aside0 (MapAt kInt w3 mb (valM m)) := ⟨HM.out.move (hG3.block mb HM.out.lt (fun he => by
    obtain ⟨cells, h⟩ := ht mb he.symm
    obtain ⟨es, cl, h2, _⟩ := HM.out
    rw [h] at h2
    cases h2))⟩
   have HB3 : Aside0 (Below w.heap.size w w3) := ⟨HB.out.grown hG3 HB.out.size (fun k hk => R_base HN.out k hk)⟩
   obtain ⟨zs, hzs⟩ : ∃ zs, zs = sortL (keysM m) := ⟨_, rfl⟩
   have hzl : zs.length ≤ 1000000000 := by have := HKL.out; rw [hzs]; simpa [sortL] using this
   rw [← hzs] at hR3
   obtain ⟨An, cn, rfl⟩ := Kd.R_slice hR3
   have HN3 := Aside0.mk hR3
   have HZ := Aside0.mk hzs
   have HZL := Aside0.mk hzl
   clear hR3 hG3 ht hzs hzl HN HM HB hlt hi hd
   go_wp2_with fail
   go_loopw [10, 47] (fun v k wr => S2Rel w mb m zs An cn v k wr) (fun _ k _ => zs.length - (intOf k).toNat)
   case atStart => exact ⟨0, rfl, by omega, ⟨Kd.R_nil _ _ _ _ _⟩, HM3, HN3, HB3⟩
   case round =>
    obtain ⟨i, rfl, hi, HO, HM, HN, HB⟩ := hrel
    by_cases hlt : i < zs.length
    ·have hd : decide (i < zs.length) = true := decide_eq_true hlt
     obtain ⟨ad, x, rfl, hx, HX⟩ := cellN (Kd.R_reads' HN.out).2.2 i hlt (Nat.le_refl _)
     have hi9 : i < 1000000000 := by have := HZL.out; omega
     have hlk : (Instr.lookup 59 (.map (some mb)) (.int .i64 x) false).run Tryz.prog wr = .ok ((mget (valM m) x).getD (.slice none 0 0)) wr :=
      run_lookup (kInt_enc Tryz.underlying3) Tryz.underlying59 HM.out x (z := .slice none 0 0) (by kernel_rfl)
     have HST := Aside0.mk (out_step m zs i x HX.out)
     rw [valM_val] at hlk
     obtain ⟨sl, hsl⟩ : ∃ sl, sl = (mget m x).getD (none, 0, 0) := ⟨_, rfl⟩
     rw [← hsl] at hlk HST
     clear hsl
     obtain ⟨A', n', c'⟩ := sl
     simp only [sliceV] at hlk
     go_wp2_with (at_builtin; refine Kd.R_append kRaw (w0 := w) w.heap.size rfl (.tmp 51) (.tmp 57) 23 40 (.agg #[.int .i64 0, .slice none 0 0]) 32 rfl Tryz.underlying23 info40 rfl (by decide) (by decide) u10 (outRaw m (zs.take i)) (x, A', n', c') [.int .i64 x, .slice A' n' c'] (fun _ => True) (fun _ => False) rfl rfl ?aP (fun _ hk => hk.elim) (fun _ _ => trivial) HO.out HB.out HB.out.size ?aL ?_)
     case aP => exact kRaw_mkM _ _ _ _
     case aL => simp [outRaw]; omega
     intro v6 w6 hO6 hB6 hG6 _
     have ht : ∀ r, u10.ownBlock = some r → ∃ cells, wr.heap[r]? = some (.cells cells 40 (0, 0)) := fun r hr => R_typed HO.out r hr
     have HN6 := Aside0.mk (R_apart HN.out hG6 (fun r hr => by obtain ⟨cells, h⟩ := ht r hr; exact ⟨_, cells, h, by decide⟩))
     have HM6 : Aside0 (MapAt kInt w6 mb (valM m)) := ⟨HM.out.move (hG6.block mb HM.out.lt (fun he => by
      obtain ⟨cells, h⟩ := ht mb he.symm
      obtain ⟨es, cl, h2, _⟩ := HM.out
      rw [h] at h2
      cases h2))⟩
     have HO6 : Aside0 (Kd.R kRaw 40 w6 w.heap.size (fun _ => True) v6 (outRaw m (zs.take (i + 1)))) := ⟨by rw [HST.out]; exact hO6⟩
     have HB6 := Aside0.mk hB6
     clear hO6 hB6 hG6 ht hlk hx
     go_wp2_with fail
     go_roundw
     case measure => simp [intOf]; omega
     case rel => exact ⟨i + 1, by go_num, by omega, HO6, HM6, HN6, HB6⟩
    ·have hd : decide (i < zs.length) = false := decide_eq_false hlt
     go_wp2_with fail
     go_returns
     refine ⟨_, rfl, ?_, HB.out⟩
     have h := HO.out
     rw [List.take_of_length_le (by omega), HZ.out, HMM.out, HLE.out] at h
     exact h
/-- what is made of a change -/
def writeG (xs : List Int) (l : List S40) (g : List S40 → List S40) : List S42 × Int :=
 match diskF xs with
 | none => ([], 200)
 | some (j, st) => if askedF l = 0 then changeR xs j st (g st.recs) else ([], askedF l)
/-- what a closure does with the records of a state -/
def DoOk (fn : FuncId) (b : Nat) (w : World) (g : List S40 → List S40) : Prop :=
 ∀ (w2 : World) (B mb : Nat) (vr : Value) (rs : List S40), Kd.R k40 40 w2 B (fun k => k ≠ mb) vr rs → Below w.heap.size w w2 → w.heap.size ≤ B → rs.length ≤ 8000 →
  Calls Tryz.prog fn #[vr, .pointer (some ⟨b, 0, none⟩)] w2 fun e w3 => ∃ A c, e = .returned (.slice A (g rs).length c) ∧ (g rs).length ≤ c ∧ Kd.C k40 w3 A (g rs).length (g rs) ∧ w2.grownBy w3 vr.ownBlock
set_option maxHeartbeats 2000000 in
set_option maxRecDepth 100000 in
theorem change_any (fn : FuncId) (g : List S40 → List S40) (A0 : Option Addr) (c0 : Nat) (l0 : List Int) (A1 : Option Addr) (c1 : Nat) (l1 : List S40) (b : Nat) (w : World) (hr0 : Kd.C (Kd.int .u8) w A0 l0.length l0) (hc0 : l0.length ≤ c0) (hbt : IsBytes l0)
  (hr1 : Kd.C k40 w A1 l1.length l1) (hc1 : l1.length ≤ c1) (eg : ∀ args w, (callFunc fn args).run Tryz.prog w = .ok (.enter fn args) w) (hdo : DoOk fn b w g) (hrb : ∀ j st, diskF l0 = some (j, st) → askedF l1 = 0 → (recsB (g st.recs)).length ≤ 70368744177664) :
  Calls Tryz.prog 24 #[.slice A0 l0.length c0, .slice A1 l1.length c1, .func (.func fn) #[] #[.pointer (some ⟨b, 0, none⟩)]] w fun e w' =>
   ∃ v, e = .returned (.tuple #[v, .int .i64 (writeG l0 l1 g).2]) ∧ Kd.R k42 42 w' w.heap.size (fun _ => True) v (writeG l0 l1 g).1 ∧ Below w.heap.size w w' := by
 have HR0 := Aside0.mk hr0
 have HR1 := Aside0.mk hr1
 have HBT := Aside0.mk hbt
 have HAF := Aside0.mk (asked_f l1 (Kd.C_max hr1))
 have HDO := Aside0.mk hdo
 have HRB := Aside0.mk hrb
 clear hr0 hr1 hbt hdo hrb
 go_enter Tryz.func24, Tryz.ntmps24
 go_wp2_with fail
 refine (open_all A0 _ c0 l0 w HR0.out hc0 HBT.out).mono ?_
 rintro e w1 ⟨hb, v, rfl, hbest⟩
 have HW := Aside0.mk hb
 clear hb
 obtain ⟨o, ho⟩ : ∃ o, o = diskF l0 := ⟨_, rfl⟩
 rw [← ho] at hbest ⊢
 have HO := Aside0.mk ho
 clear ho
 cases o with
 | none =>
  obtain rfl : v = .pointer none := hbest
  simp only [Option.isSome_none, Bool.false_eq_true, if_false]
  go_wp2_with fail
  go_returns
  exact ⟨.slice none 0 0, by simp [writeG, ← HO.out], by simp only [writeG, ← HO.out]; exact Kd.R_nil _ _ _ _ _, HW.out⟩
 | some q =>
  obtain ⟨j, st⟩ := q
  obtain ⟨gb, mb, vr, rfl, hg, hgB, hgm, hS⟩ := hbest
  simp only [Option.isSome_some, if_true]
  have c4 := blk_cell hg 4
  simp at c4
  have HG := Aside0.mk hg
  have HS := Aside0.mk hS
  clear hS hg
  have HR11 : Aside0 (Kd.C k40 w1 A1 l1.length l1) := ⟨Kd.C_below HR1.out HW.out⟩
  obtain ⟨ak, hak⟩ : ∃ ak, ak = askedF l1 := ⟨_, rfl⟩
  have HAK := Aside0.mk hak
  rw [← hak] at HAF
  have hav : ak = 0 ∨ ak = 1 := by rw [hak]; exact asked_vals l1 none
  clear hak
  rcases hav with rfl | rfl
  ·go_wp2_with fail
   refine (disk_asked.calls _ A1 c1 l1 0 w1 HR11.out hc1 HAF.out).mono ?_
   rintro e w2 ⟨rfl, hB2⟩
   have HB2 := Aside0.mk hB2
   have d4 : w2.cell? ⟨gb, 4, none⟩ = some vr := (hB2.cell (p := ⟨gb, 4, none⟩) (blk_lt HG.out)).trans c4
   have HG2 : Aside0 (w2.heap[gb]? = some (.cells #[.slice A0 l0.length c0, .int .i64 (j : Int), .int .i64 st.ver, .map (some mb), vr] 81 (0, 0))) := ⟨(HB2.out.block gb (blk_lt HG.out)).trans HG.out⟩
   have HM2 : Aside0 (MapAt kInt w2 mb (usedMap st.used)) := ⟨HS.out.map.move (HB2.out.block mb HS.out.map.lt)⟩
   have HV2 : Aside0 (Kd.R k40 40 w2 w.heap.size (fun k => k ≠ mb) vr st.recs) := ⟨Kd.R_step HS.out.recs (fun k _ hl => HB2.out.block k hl)⟩
   have HB22 : Aside0 (Below w.heap.size w w2) := ⟨HW.out.trans (HB2.out.mono HW.out.size)⟩
   clear hB2 c4
   go_wp2_with fail
   refine (HDO.out w2 w.heap.size mb vr st.recs HV2.out HB22.out (Nat.le_refl _) (disk_recs HO.out.symm)).mono ?_
   rintro e w3 ⟨Ag, cg, rfl, hcg, hCg, hG3⟩
   obtain ⟨gl, hgl⟩ : ∃ gl, gl = g st.recs := ⟨_, rfl⟩
   have hrb : (recsB gl).length ≤ 70368744177664 := by rw [hgl]; exact HRB.out j st HO.out.symm HAK.out.symm
   have HGL := Aside0.mk hgl
   rw [← hgl] at hcg hCg ⊢
   have HCG := Aside0.mk hCg
   obtain ⟨e64, h8, h256, hj1, _, hv1, hv2, hu⟩ := disk_facts HO.out.symm
   have ht : ∀ r, vr.ownBlock = some r → ∃ cells, w2.heap[r]? = some (.cells cells 40 (0, 0)) := fun r hr => R_typed HV2.out r hr
   have HG3 : Aside0 (w3.heap[gb]? = some (.cells #[.slice A0 l0.length c0, .int .i64 (j : Int), .int .i64 st.ver, .map (some mb), vr] 81 (0, 0))) := ⟨blk_apart HG2.out hG3 (fun r hr => by obtain ⟨cells, h⟩ := ht r hr; exact ⟨_, cells, h, by decide⟩)⟩
   have HM3 : Aside0 (MapAt kInt w3 mb (usedMap st.used)) := ⟨HM2.out.move (hG3.block mb HM2.out.lt (fun he => by
    obtain ⟨cells, h⟩ := ht mb he.symm
    obtain ⟨es, cl, h2, _⟩ := HM2.out
    rw [h] at h2
    cases h2))⟩
   have HB3 : Aside0 (Below w.heap.size w w3) := ⟨HB22.out.grown hG3 HB22.out.size (fun k hk => R_base HV2.out k hk)⟩
   obtain ⟨nb, hnb⟩ : ∃ nb, nb = l0.length / 64 := ⟨_, rfl⟩
   rw [← hnb] at h8 h256 hu e64
   have HNB := Aside0.mk hnb
   obtain ⟨ok, hok⟩ : ∃ ok, ok = writesOk nb st.ver (recsB gl) := ⟨_, rfl⟩
   have HOK := Aside0.mk hok
   have HE64 := Aside0.mk e64
   have HV2' := Aside0.mk hv2
   have HU := Aside0.mk hu
   have hW0 : (writeG l0 l1 g) = if ok then (writesF j st.ver (freeL st.used 2 (nb - 2)) (recsB gl), 0) else ([], 2) := by
    unfold writeG changeR
    rw [← HO.out]
    simp only [← HAK.out, if_true, ← hnb, ← hgl, ← hok]
   have HWR := Aside0.mk hW0
   clear hnb hok e64 hW0 hv2 hu hgl hCg hG3 ht d4
   cases ok with
   | false =>
    go_wp2_with fail
    refine (writes_bad gb mb A0 l0.length c0 j st vr nb Ag cg gl w3 HG3.out HE64.out h8 h256 HCG.out hcg hrb HOK.out.symm).mono ?_
    rintro e w4 ⟨rfl, hB4⟩
    have HB4 := Aside0.mk hB4
    clear hB4
    go_wp2_with fail
    go_returns
    refine ⟨.slice none 0 0, by simp [HWR.out], by simp only [HWR.out]; exact Kd.R_nil _ _ _ _ _, HB3.out.trans (HB4.out.mono HB3.out.size)⟩
   | true =>
    have hfl : ((recsB gl).length + 61) / 62 ≤ (freeL st.used 2 (nb - 2)).length := by
     have h1 := HOK.out
     unfold writesOk at h1
     simp at h1
     exact free_room h8 HU.out h1.1
    have HFL := Aside0.mk hfl
    clear hfl
    go_wp2_with fail
    refine (writes_good gb mb A0 l0.length c0 j st vr nb Ag cg gl w3 HG3.out HE64.out h8 h256 HM3.out HCG.out hcg hj1 (by omega) HOK.out.symm HFL.out).mono ?_
    rintro e w4 ⟨v4, rfl, hR4, hB4⟩
    have HB4 := Aside0.mk hB4
    have HR4 := Aside0.mk hR4
    clear hB4 hR4
    go_wp2_with fail
    go_returns
    refine ⟨v4, by simp [HWR.out], by simp only [HWR.out, if_true]; exact Kd.R_lower HR4.out HB3.out.size, HB3.out.trans (HB4.out.mono HB3.out.size)⟩
  ·go_wp2_with fail
   refine (disk_asked.calls _ A1 c1 l1 1 w1 HR11.out hc1 HAF.out).mono ?_
   rintro e w2 ⟨rfl, hB2⟩
   have HB2 := Aside0.mk hB2
   clear hB2 c4
   go_wp2_with fail
   go_returns
   exact ⟨.slice none 0 0, by simp [writeG, ← HO.out, ← HAK.out], by simp only [writeG, ← HO.out, ← HAK.out]; exact Kd.R_nil _ _ _ _ _, HW.out.trans (HB2.out.mono HW.out.size)⟩
/-- a closure that tells something of a record -/
def PredOk (fn : FuncId) (b : Nat) (w0 : World) (p : Raw → Bool) : Prop :=
 ∀ (W : World) (r : Raw), Below w0.heap.size w0 W → Calls Tryz.prog fn #[.agg #[.int .i64 r.1, sliceV r.2], .pointer (some ⟨b, 0, none⟩)] W fun e w' => e = .returned (.bool (p r)) ∧ Below W.heap.size W w'
def keepL (p : Raw → Bool) (l : List Raw) : List Raw := l.filter fun x => !p x
def FirstAt (p : Raw → Bool) (l : List Raw) (r : Int) : Prop := (r = -1 ∧ keepL p l = l) ∨ ∃ i : Nat, ∃ h : i < l.length, r = i ∧ p l[i] = true ∧ keepL p (l.take i) = l.take i
theorem keep_step (p : Raw → Bool) (l : List Raw) (i : Nat) (h : i < l.length) : keepL p (l.take (i + 1)) = keepL p (l.take i) ++ if p l[i] then [] else [l[i]] := by
 unfold keepL
 rw [List.take_succ_eq_append_getElem h, List.filter_append]
 congr 1
 cases hp : p l[i] <;> simp [hp]
set_option maxRecDepth 100000 in
theorem index_raw (fn : FuncId) (b : Nat) (p : Raw → Bool) (w0 W : World) (A : Option Addr) (c : Nat) (l : List Raw) (hC : Kd.C kRaw W A l.length l) (hc : l.length ≤ c) (hl : l.length ≤ 1000000000)
  (eg : ∀ args w, (callFunc fn args).run Tryz.prog w = .ok (.enter fn args) w) (hp : PredOk fn b w0 p) (hB : Below w0.heap.size w0 W) :
  Calls Tryz.prog 58 #[.slice A l.length c, .func (.func fn) #[] #[.pointer (some ⟨b, 0, none⟩)]] W fun e w' => ∃ r : Int, e = .returned (.int .i64 r) ∧ FirstAt p l r ∧ Below W.heap.size W w' := by
 have HC := Aside0.mk hC
 have HP := Aside0.mk hp
 have HB := Aside0.mk hB
 clear hC hp hB
 go_enter Tryz.func58, Tryz.ntmps58
 go_wp2_with fail
 go_loopw [8] (fun k wr => ∃ i : Nat, k = .int .i64 i ∧ i ≤ l.length ∧ Aside0 (Below W.heap.size W wr) ∧ Aside0 (keepL p (l.take i) = l.take i)) (fun k _ => l.length - (intOf k).toNat)
 case atStart => exact ⟨0, rfl, by omega, ⟨Below.refl _ _⟩, ⟨rfl⟩⟩
 case round =>
  obtain ⟨i, rfl, hi, HBW, HK⟩ := hrel
  by_cases hlt : i < l.length
  ·have hd : decide (i < l.length) = true := decide_eq_true hlt
   obtain ⟨ad, rfl, q0, q1⟩ := raw_at (Kd.C_below HC.out HBW.out) i hlt
   obtain ⟨r, hr⟩ : ∃ r, r = l[i] := ⟨_, rfl⟩
   have hst := keep_step p l i hlt
   rw [HK.out, ← hr] at hst
   rw [← hr] at q0 q1
   have HST := Aside0.mk hst
   have hcall := HP.out wr r (HB.out.trans (HBW.out.mono HB.out.size))
   have HR := Aside0.mk hr
   clear hst hr
   obtain ⟨num, A', n', c'⟩ := r
   simp only [sliceV] at q0 q1 hcall
   have HCALL := Aside0.mk hcall
   clear hcall
   obtain ⟨pv, hpv⟩ : ∃ pv, pv = p (num, A', n', c') := ⟨_, rfl⟩
   have HPV := Aside0.mk hpv
   clear hpv
   go_wp2_with fail
   refine (HCALL.out).mono ?_
   rintro e w2 ⟨rfl, hB2⟩
   rw [← HPV.out]
   have HB2 : Aside0 (Below W.heap.size W w2) := ⟨HBW.out.trans (hB2.mono HBW.out.size)⟩
   clear hB2 q0 q1
   cases pv with
   | true =>
    go_wp2_with fail
    go_returns
    exact ⟨_, rfl, .inr ⟨i, hlt, rfl, by rw [← HR.out]; exact HPV.out.symm, HK.out⟩, HB2.out⟩
   | false =>
    go_wp2_with fail
    go_roundw
    case measure => simp [intOf]; omega
    case rel =>
     refine ⟨i + 1, by go_num, by omega, HB2, ⟨?_⟩⟩
     have h := HST.out
     rw [← HPV.out] at h
     rw [h, HR.out, List.take_succ_eq_append_getElem hlt]
     rfl
  ·have hd : decide (i < l.length) = false := decide_eq_false hlt
   go_wp2_with fail
   go_returns
   exact ⟨-1, rfl, .inl ⟨rfl, by have := HK.out; rwa [List.take_of_length_le (by omega)] at this⟩, HBW.out⟩
/-- 'clear(s)', s a slice of n > 0 elements of several cells -/
theorem run_clear_rows {P : Program} (w : World) (t e ty : TypeId) (z : Value) (ht : P.underlying t = some (.slice e)) (hv : ∀ w, (zeroValue e).run P w = .ok z w) (h1 : ∀ v ∈ z.cells.toList, v.oneCell' = true) (s : Nat) (hs : z.cells.size = s) (hs0 : 0 < s) (b o n c : Nat) (hn : 0 < n)
  (hc : ∀ j, j < n * s → (w.cell? ⟨b, o + j, none⟩).isSome = true) (hf : ∀ j, w.frozen? ⟨b, o + j, none⟩ = false) :
  (Builtin.clear_ #[t] ty #[.slice (some ⟨b, o, none⟩) n c]).run P w = .ok (.tuple #[]) (w.setCells b o (Builtin.zeroCells z.cells n).toList) := by
 have hlen : (Builtin.zeroCells z.cells n).toList.length = n * s := by simp [Builtin.zeroCells, hs]
 have hst := run_storeCells_cells (P := P) b o (Builtin.zeroCells z.cells n).toList 0 w (by rw [hlen]; intro j hj; rw [Nat.add_zero]; exact hc j hj) (by rw [hlen]; intro j _; rw [Nat.add_zero]; exact hf j) (by
  intro v hv'
  unfold Builtin.zeroCells at hv'
  rw [Array.toList_map, List.mem_map] at hv'
  obtain ⟨i, _, rfl⟩ := hv'
  refine h1 _ ?_
  have hlt : i % z.cells.size < z.cells.size := Nat.mod_lt _ (by omega)
  rw [getElem!_pos z.cells _ hlt]
  exact Array.getElem_mem_toList hlt)
 simp only [Nat.add_zero] at hst
 obtain ⟨m, rfl⟩ : ∃ m, n = m + 1 := ⟨n - 1, by omega⟩
 simp [Builtin.clear_, run_underlying ht, hv, hst]
theorem R_kcells {wr : World} {base g cap : Nat} {n : Nat} {dk : List Raw} (h : Kd.R kRaw 40 wr base (fun _ => True) (.slice (some ⟨g, 0, none⟩) n cap) dk) (h0 : 0 < n) :
  (∀ q, q < n * 2 → (wr.cell? ⟨g, q, none⟩).isSome = true) ∧ ∀ q, wr.frozen? ⟨g, q, none⟩ = false := by
 refine ⟨fun q hq => ?_, fun q => ?_⟩
 ·obtain ⟨c, hcl, _, hcc, _⟩ := Kd.R_elem h ((0, none, 0, 0) : Raw) ((q / 2 : Nat) : Int) (by omega) (by omega)
  have hcl : c.length = 2 := hcl
  have hlt : q % 2 < c.length := by omega
  have h2 : wr.cell? ⟨g, ((q / 2 : Nat) : Int).toNat * 2 + q % 2, none⟩ = some c[q % 2] := hcc _ _ (List.getElem?_eq_getElem hlt)
  rw [Int.toNat_natCast, show q / 2 * 2 + q % 2 = q by omega] at h2
  rw [h2]
  rfl
 ·obtain ⟨c, _, _, _, hff⟩ := Kd.R_elem h ((0, none, 0, 0) : Raw) (0 : Int) (by omega) (by omega)
  have h2 : wr.frozen? ⟨g, (0 : Int).toNat * 2 + q, none⟩ = false := hff q
  simpa using h2
theorem C_cut {wr : World} {g n i : Nat} {dk : List Raw} (h : Kd.C kRaw wr (some ⟨g, 0, none⟩) n dk) (hi : i ≤ dk.length) (vs : List Value) : Kd.C kRaw (wr.setCells g (i * 2) vs) (some ⟨g, 0, none⟩) i (dk.take i) := by
 obtain ⟨h1, h2, h3⟩ := h
 refine ⟨by simp; omega, by omega, fun h0 => ⟨_, rfl, fun j p hj => ?_⟩⟩
 obtain ⟨ad, e, hc⟩ := h3 (by omega)
 injection e with e
 subst e
 rw [List.getElem?_take] at hj
 split at hj
 ·rename_i hji
  obtain ⟨cs, hl, hk, hcell⟩ := hc j p hj
  obtain rfl := kRaw_open hk
  refine ⟨_, rfl, kRaw_mk _ p, fun q u hu => ?_⟩
  have hq : q < 2 := by have := (List.getElem?_eq_some_iff.1 hu).1; simpa using this
  rw [← hcell q u hu]
  refine World.cell?_setCells_out g vs (i * 2) wr _ (fun _ _ => .inl ?_)
  show ((⟨g, 0, none⟩ : Addr).add (j * 2 + q)).off < _
  rw [add_plain]
  simp only
  omega
 ·cases hj
theorem grown_of {W w' : World} (h : Below W.heap.size W w') (row : Option Nat) : W.grownBy w' row := ⟨h.os, h.tape, h.output, h.size, fun k hk _ => h.block k hk⟩
theorem keep_first {p : Raw → Bool} {l : List Raw} {i : Nat} (h : i < l.length) (hp : p l[i] = true) (hk : keepL p (l.take i) = l.take i) : keepL p (l.take (i + 1)) = l.take i := by
 rw [keep_step p l i h, hp, hk]
 simp
/-- the loop that moves what stays -/
def DelRel (W : World) (base g cap : Nat) (p : Raw → Bool) (l : List Raw) (u5 u6 : Value) (wr : World) : Prop :=
 ∃ (i j : Nat) (dk : List Raw), u5 = .int .i64 i ∧ u6 = .int .i64 j ∧ i < j ∧ j ≤ l.length ∧ Aside0 (dk.length = l.length) ∧ Aside0 (dk.take i = keepL p (l.take j)) ∧ Aside0 (dk.drop j = l.drop j) ∧
  Aside0 (Kd.R kRaw 40 wr base (fun _ => True) (.slice (some ⟨g, 0, none⟩) l.length cap) dk) ∧ Aside0 (W.grownBy wr (some g))
set_option maxRecDepth 100000 in
theorem delete_raw (fn : FuncId) (b : Nat) (p : Raw → Bool) (w0 W : World) (base g cap : Nat) (ad : Addr) (l : List Raw) (had : Aside0 (ad = ⟨g, 0, none⟩)) (hR : Kd.R kRaw 40 W base (fun _ => True) (.slice (some ⟨g, 0, none⟩) l.length cap) l) (hl : l.length ≤ 1000000000)
  (eg : ∀ args w, (callFunc fn args).run Tryz.prog w = .ok (.enter fn args) w) (hp : PredOk fn b w0 p) (hB : Below w0.heap.size w0 W) (hb0 : w0.heap.size ≤ base) :
  Calls Tryz.prog 34 #[.slice (some ad) l.length cap, .func (.func fn) #[] #[.pointer (some ⟨b, 0, none⟩)]] W fun e w' => e = .returned (.slice (some ad) (keepL p l).length cap) ∧
   Kd.C kRaw w' (some ad) (keepL p l).length (keepL p l) ∧ W.grownBy w' (some g) := by
 have HR := Aside0.mk hR
 have HP := Aside0.mk hp
 have HB := Aside0.mk hB
 have HGB : Aside0 (base ≤ g) := ⟨R_base hR g rfl⟩
 have hc : l.length ≤ cap := (Kd.R_reads' hR).2.1
 have HC : Aside0 (Kd.C kRaw W (some ad) l.length l) := ⟨by rw [had.out]; exact (Kd.R_reads' hR).2.2⟩
 clear hR hp hB
 go_enter Tryz.func34, Tryz.ntmps34
 go_wp2_with fail
 refine (index_raw fn b p w0 W (some ad) cap l HC.out hc hl eg HP.out HB.out).mono ?_
 rintro e w1 ⟨r, rfl, hF, hB1⟩
 have HB1 := Aside0.mk hB1
 clear hB1
 rcases hF with ⟨rfl, hk⟩ | ⟨i0, hi0, rfl, hp0, hk0⟩
 ·have HK := Aside0.mk hk
  clear hk
  go_wp2_with fail
  go_returns
  rw [HK.out]
  exact ⟨rfl, Kd.C_below HC.out HB1.out, grown_of HB1.out _⟩
 ·have HK := Aside0.mk (keep_first hi0 hp0 hk0)
  have hn1 : (((i0 : Nat) : Int) == -1) = false := by rw [beq_eq_false_iff_ne]; omega
  clear hp0 hk0
  go_wp2_with fail
  go_loopw [5, 6] (fun u5 u6 wr => DelRel W base g cap p l u5 u6 wr) (fun _ u6 _ => l.length - (intOf u6).toNat)
  case atStart =>
   exact ⟨i0, i0 + 1, l, rfl, by go_num, by omega, by omega, ⟨rfl⟩, ⟨HK.out.symm⟩, ⟨rfl⟩, ⟨Kd.R_below HR.out HB1.out⟩, ⟨grown_of HB1.out _⟩⟩
  case round =>
   obtain ⟨i, j, dk, rfl, rfl, hij, hj, HDL, HT, HD, HRR, HG⟩ := hrel
   by_cases hlt : j < l.length
   ·have hd : decide (j < l.length) = true := decide_eq_true hlt
    obtain ⟨ad', e1, q0, q1⟩ := raw_at (A := some ad) (W := wr) (n := dk.length) (L := dk) (by have h := (Kd.R_reads' HRR.out).2.2; rw [had.out]; rwa [HDL.out] at h ⊢) j (by rw [HDL.out]; exact hlt)
    injection e1 with e1
    subst e1
    have hjd : j < dk.length := by rw [HDL.out]; exact hlt
    have hrj : dk[j] = l[j] := by
     have h := congrArg (fun q => q[0]?) HD.out
     simp only [List.getElem?_drop, Nat.add_zero] at h
     rw [List.getElem?_eq_getElem hjd, List.getElem?_eq_getElem hlt] at h
     exact Option.some.inj h
    obtain ⟨r, hr⟩ : ∃ r, r = l[j] := ⟨_, rfl⟩
    rw [hrj, ← hr] at q0 q1
    have hst := keep_step p l j hlt
    rw [← hr] at hst
    have HST := Aside0.mk hst
    have HRJ := Aside0.mk (show dk[j]? = some r by rw [List.getElem?_eq_getElem hjd, hrj, hr])
    have HBW : Aside0 (Below w0.heap.size w0 wr) := ⟨HB.out.grown HG.out HB.out.size (fun k hk => by injection hk with hk; have := HGB.out; omega)⟩
    clear hst hr hrj
    obtain ⟨num, A', n', c'⟩ := r
    simp only [sliceV] at q0 q1
    go_upto_region 8 with fail
    obtain ⟨g5, hg5⟩ : ∃ g5, g5 = wr.heap.size := ⟨_, rfl⟩
    obtain ⟨w5, hw5⟩ : ∃ w5, w5 = wr.alloc (.cells #[.int .i64 num, .slice A' n' c'] 40) := ⟨_, rfl⟩
    rw [← hg5, ← hw5]
    have hb5 := heap_alloc_new wr (.cells #[.int .i64 num, .slice A' n' c'] 40)
    rw [← hw5, ← hg5] at hb5
    have hB5 : Below wr.heap.size wr w5 := by rw [hw5]; exact below_alloc (Below.refl _ _) _
    have HC5 := Aside0.mk hb5
    have HB5 := Aside0.mk hB5
    have hcall := HP.out w5 (num, A', n', c') (HBW.out.trans (hB5.mono HBW.out.size))
    obtain ⟨pv, hpv⟩ : ∃ pv, pv = p (num, A', n', c') := ⟨_, rfl⟩
    rw [← hpv] at hcall
    have HPV := Aside0.mk hpv
    have HCALL := Aside0.mk hcall
    have k0 := blk_cell hb5 0
    have k1 := blk_cell hb5 1
    simp at k0 k1
    clear hb5 hw5 hg5 hB5 hcall hpv q0 q1 hd
    go_wp2_with fail
    refine (HCALL.out).mono ?_
    rintro e w2 ⟨rfl, hB2⟩
    have HB2 : Aside0 (Below wr.heap.size wr w2) := ⟨HB5.out.trans (hB2.mono HB5.out.size)⟩
    have hc2 : w2.heap[g5]? = some (.cells #[.int .i64 num, .slice A' n' c'] 40 (0, 0)) := (hB2.block g5 (blk_lt HC5.out)).trans HC5.out
    clear hB2 k0 k1
    have k0 := blk_cell hc2 0
    have k1 := blk_cell hc2 1
    simp at k0 k1
    clear hc2
    have HR2 := Aside0.mk (Kd.R_below HRR.out HB2.out)
    have HG2 : Aside0 (W.grownBy w2 (some g)) := ⟨HG.out.trans (grown_of HB2.out _)⟩
    cases pv with
    | true =>
     go_wp2_with fail
     go_roundw
     case measure => simp [intOf]; omega
     case rel =>
      refine ⟨i, j + 1, dk, rfl, by go_num, by omega, by omega, HDL, ⟨?_⟩, ⟨?_⟩, HR2, HG2⟩
      ·rw [HT.out, HST.out, ← HPV.out]; simp
      ·rw [← List.drop_drop, HD.out, List.drop_drop]
    | false =>
     have hid : i < dk.length := by rw [HDL.out]; omega
     obtain ⟨cs, hcl, _, hcc, hff⟩ := Kd.R_elem HR2.out ((0, none, 0, 0) : Raw) (i : Int) (by omega) (by omega)
     have hcl : cs.length = 2 := hcl
     have hcc : ∀ q u, cs[q]? = some u → w2.cell? ⟨g, (i : Int).toNat * 2 + q, none⟩ = some u := hcc
     have hff : ∀ q, w2.frozen? ⟨g, (i : Int).toNat * 2 + q, none⟩ = false := hff
     obtain ⟨x0, x1, rfl⟩ : ∃ x0 x1, cs = [x0, x1] := by
      match cs, hcl with
      | [x0, x1], _ => exact ⟨x0, x1, rfl⟩
     have HCC := Aside0.mk hcc
     have e0 : ad.add (i * 2) = ⟨g, (i : Int).toNat * 2 + 0, none⟩ := by rw [had.out, add_plain]; simp
     have e1 : (⟨(ad.add (i * 2)).block, (ad.add (i * 2)).off + 1, none⟩ : Addr) = ⟨g, (i : Int).toNat * 2 + 1, none⟩ := by simp only [e0, Nat.add_zero]
     have o0 : w2.cell? (ad.add (i * 2)) = some x0 := by rw [e0]; exact hcc 0 x0 rfl
     have o1 : w2.cell? ⟨(ad.add (i * 2)).block, (ad.add (i * 2)).off + 1, none⟩ = some x1 := by rw [e1]; exact hcc 1 x1 rfl
     have f0 : w2.frozen? (ad.add (i * 2)) = false := by rw [e0]; exact hff 0
     have f1 : w2.frozen? ⟨(ad.add (i * 2)).block, (ad.add (i * 2)).off + 1, none⟩ = false := by rw [e1]; exact hff 1
     have o1' : ∀ u, (w2.setCell (ad.add (i * 2)) u).cell? ⟨(ad.add (i * 2)).block, (ad.add (i * 2)).off + 1, none⟩ = some x1 := fun u => by
      rw [← o1, e1, e0]
      exact World.cell?_setCells_out g [u] ((i : Int).toNat * 2 + 0) w2 _ (fun _ _ => .inr (by simp))
     have f1' : ∀ u, (w2.setCell (ad.add (i * 2)) u).frozen? ⟨(ad.add (i * 2)).block, (ad.add (i * 2)).off + 1, none⟩ = false := fun u => by
      rw [← f1, e1, e0]
      exact World.frozen?_setCells g [u] ((i : Int).toNat * 2 + 0) w2 _
     have HE0 := Aside0.mk e0
     clear e0 e1 hcc hff hcl
     go_wp2_with fail
     go_roundw
     case measure => simp [intOf]; omega
     case rel =>
      have hseg := Kd.R_seg HR2.out (i : Int) (by omega) (by omega) (c := [x0, x1]) (seg := [.int .i64 num, .slice A' n' c']) (j := 0) rfl HCC.out (by show 0 + 2 ≤ 2; omega) (x' := (num, A', n', c')) (okp := fun _ => False) (kRaw_mkM w2 base (fun _ => False) (num, A', n', c')) (fun _ hk => hk.elim)
      have hw : w2.setCells g ((i : Int).toNat * 2 + 0) [.int .i64 num, .slice A' n' c'] = (w2.setCell (ad.add (i * 2)) (.int .i64 num)).setCell ⟨(ad.add (i * 2)).block, (ad.add (i * 2)).off + 1, none⟩ (.slice A' n' c') := by rw [HE0.out]; rfl
      have hsz : (kRaw.sz : Nat) = 2 := rfl
      rw [hsz, hw] at hseg
      refine ⟨i + 1, j + 1, dk.set i (num, A', n', c'), by go_num, by go_num, by omega, by omega, ⟨by rw [List.length_set, HDL.out]⟩, ⟨?_⟩, ⟨?_⟩, ⟨by have := hseg.1; rwa [Int.toNat_natCast] at this⟩, ⟨HG2.out.trans hseg.2⟩⟩
      ·rw [HST.out, ← HPV.out, ← HT.out, List.take_succ_eq_append_getElem (by rw [List.length_set]; exact hid), List.take_set_of_le (Nat.le_refl i), List.getElem_set_self]
       simp
      ·rw [List.drop_set_of_lt (by omega), ← List.drop_drop, HD.out, List.drop_drop]
   ·obtain rfl : j = l.length := by omega
    have hd : decide (l.length < l.length) = false := decide_eq_false (by omega)
    have hRl := HRR.out
    have hid : i ≤ dk.length := by rw [HDL.out]; omega
    obtain ⟨hce, hfr⟩ := R_kcells hRl (by omega)
    have e0 : ad.add (i * 2) = ⟨g, i * 2, none⟩ := by rw [had.out, add_plain]
    have hcl : (Builtin.clear_ #[23] 0 #[.slice (some (ad.add (i * 2))) (l.length - i) (cap - i)]).run Tryz.prog wr = .ok (.tuple #[]) (wr.setCells g (i * 2) (Builtin.zeroCells (Value.agg #[.int .i64 0, .slice none 0 0]).cells (l.length - i)).toList) := by
     rw [e0]
     exact run_clear_rows wr _ _ 0 (.agg #[.int .i64 0, .slice none 0 0]) Tryz.underlying23 (fun w => by kernel_rfl) (by decide) 2 rfl (by omega) g (i * 2) _ _ (by omega) (fun q hq => hce _ (by omega)) (fun q => hfr _)
    obtain ⟨zs, hzs⟩ : ∃ zs, zs = (Builtin.zeroCells (Value.agg #[.int .i64 0, .slice none 0 0]).cells (l.length - i)).toList := ⟨_, rfl⟩
    rw [← hzs] at hcl
    clear hce hfr e0 hzs hRl
    go_wp2_with fail
    go_returns
    have hT := HT.out
    rw [List.take_length] at hT
    have hlen : (keepL p l).length = i := by rw [← hT, List.length_take]; omega
    rw [hlen, ← hT]
    refine ⟨rfl, ?_, HG.out.trans ?_⟩
    ·rw [had.out]
     exact C_cut (Kd.R_reads' HRR.out).2.2 hid _
    ·obtain ⟨s1, s2, s3, s4⟩ := setCells_same g zs (i * 2) wr
     exact ⟨s1, s2, s3, by rw [s4]; exact Nat.le_refl _, fun k _ hk => setCells_far zs (i * 2) k (fun he => hk (by rw [he]))⟩
end Go.Proofs.YtcdpkdehogcjnaaGreat.Print
