/- DiskWrites: for every disk's bytes, every list of records, of numbers and of writes, and every two numbers the statement answers true, and all reads afterwards as before; without condition. -/
import Derived.Test.YtcdpkdehogcjnaaGreatRP
import Derived.Test.YtcdpkdehogcjnaaGreatRQ
import Derived.Test.YtcdpkdehogcjnaaGreatRE
import Derived.Lib.LaidTab
import Derived.Test.YtcdpkdehogcjnaaGreatRows
import Derived.WalkKit
import Derived.ProofKit
import Derived.OpenShut
import Derived.ShutString
import Derived.ChangeOld
import Derived.Below
import Derived.SizedLaws
set_option linter.unusedVariables false
set_option linter.unusedSimpArgs false
namespace Go.Proofs.YtcdpkdehogcjnaaGreat.Print
open Go Go.RowKit Go.Deep Go.Proofs.YtcdpkdehogcjnaaGreatW.PrintWords Go.Proofs.YtcdpkdehogcjnaaGreatW.PrintLast Go.Proofs.YtcdpkdehogcjnaaGreatW.PrintMore
theorem room_le (nb n : Nat) (h : nb ≤ 256) (h2 : n ≤ roomN nb) : (n + 61) / 62 + 1 ≤ 1000 := by
 unfold roomN at h2
 omega
theorem change_len {xs : List Int} {j : Nat} {st : HSt} (hd : diskF xs = some (j, st)) (l : List S40) : (changeR xs j st l).1.length ≤ 1000 := by
 obtain ⟨_, _, h256, _⟩ := disk_facts hd
 unfold changeR
 cases h : writesOk (xs.length / 64) st.ver (recsB l) with
 | false => simp
 | true =>
  have h1 : (recsB l).length ≤ roomN (xs.length / 64) := by
   unfold writesOk at h
   simp at h
   exact h.1
  rw [if_pos rfl]
  show (writesF _ _ _ _).length ≤ 1000
  unfold writesF
  rw [List.length_append, writesL_len, List.length_singleton]
  exact room_le _ _ h256 h1
theorem writeR_len (xs : List Int) (l : List S40) : (writeR xs l).1.length ≤ 1000 := by
 unfold writeR
 cases hd : diskF xs with
 | none => simp
 | some q =>
  obtain ⟨j, st⟩ := q
  show (if askedF l = 0 then changeR xs j st l else ([], askedF l)).1.length ≤ 1000
  split
  ·exact change_len hd l
  ·simp
theorem writeG_len (xs : List Int) (l : List S40) (g : List S40 → List S40) : (writeG xs l g).1.length ≤ 1000 := by
 unfold writeG
 cases hd : diskF xs with
 | none => simp
 | some q =>
  obtain ⟨j, st⟩ := q
  show (if askedF l = 0 then changeR xs j st (g st.recs) else ([], askedF l)).1.length ≤ 1000
  split
  ·exact change_len hd _
  ·simp
theorem writes_law (l0 : List Int) (l1 : List S40) (l2 : List Int) (l3 : List S42) (a4 a5 : Int) (hb : IsBytes l0) (hl1 : l1.length * 32 ≤ 140737488351232) (hB : ∀ x ∈ l1, RecFits x)
  (_ : l2.length * 8 ≤ 140737488351232) (_ : ∀ x ∈ l2, (Lit.int .i64 x).wf = true) (hl3 : l3.length * 32 ≤ 140737488351232) (hB3 : ∀ x ∈ l3, PutFits x) :
  ∃ k, beryllaw20_DiskWrites.f k l0 l1 l2 l3 a4 a5 = some true := by
 obtain ⟨fw, hfew, hbnd⟩ := few_f l0 l1 hl1 hB
 obtain ⟨sl, hsl, hs3⟩ := slight_f l3 hl3 hB3
 refine ⟨l1.length + 100 * l3.length + 2000000, ?_⟩
 obtain ⟨n, hn⟩ : ∃ n, n + 3 = l1.length + 100 * l3.length + 2000000 := ⟨l1.length + 100 * l3.length + 1999997, by omega⟩
 unfold beryllaw20_DiskWrites.f
 rw [show beryllaw20_awake.f = some true from rfl, Option.bind_some, hfew _ (by omega), Option.bind_some]
 have out : beryllaw20_DiskWrites.j0 (l1.length + 100 * l3.length + 2000000) l0 l1 l2 l3 a4 a5 true true = some true := by
  rw [← hn, beryllaw20_DiskWrites.j0, if_pos rfl]
 cases fw with
 | false =>
  rw [if_neg (by simp)]
  exact out
 | true =>
 rw [if_pos rfl]
 by_cases h2 : (l2.length : Int) > 300
 ·rw [if_pos h2]
  exact out
 rw [if_neg h2, hsl _ (by omega), Option.bind_some]
 cases sl with
 | false => exact out
 | true =>
 clear out hfew hsl
 obtain ⟨hx0, hx1, htot⟩ := hbnd rfl
 have hx3 := hs3 rfl
 have hrb : (recsB l1).length ≤ 70368744177664 := by rw [recs_len]; omega
 obtain ⟨p1, hp1⟩ : ∃ p, p = writeR l0 l1 := ⟨_, rfl⟩
 obtain ⟨p2, hp2⟩ : ∃ p, p = writeG l0 l1 (savedL l1) := ⟨_, rfl⟩
 obtain ⟨p3, hp3⟩ : ∃ p, p = writeG l0 [] (leftL l2) := ⟨_, rfl⟩
 have q1 : p1.1.length ≤ 1000 := by rw [hp1]; exact writeR_len _ _
 have q2 : p2.1.length ≤ 1000 := by rw [hp2]; exact writeG_len _ _ _
 have q3 : p3.1.length ≤ 1000 := by rw [hp3]; exact writeG_len _ _ _
 have e1 : disk_Write.f l0 l1 = some p1 := by unfold disk_Write.f; rw [if_pos ⟨hb, hrb⟩, hp1]
 have e2 : berylref20_Write.f l0 l1 = some p1 := by unfold berylref20_Write.f; rw [if_pos ⟨by omega, by omega⟩, e1]
 have e3 : disk_Save.f l0 l1 = some p2 := by unfold disk_Save.f; rw [if_pos ⟨hb, by omega⟩, hp2]
 have e4 : berylref20_Save.f l0 l1 = some p2 := by unfold berylref20_Save.f; rw [if_pos (by omega), e3]
 have e5 : disk_Drop.f l0 l2 = some p3 := by unfold disk_Drop.f; rw [if_pos ⟨hb, by omega⟩, hp3]
 have e6 : berylref20_Drop.f l0 l2 = some p3 := by unfold berylref20_Drop.f; rw [if_pos (by omega), e5]
 obtain ⟨p4, e7⟩ : ∃ p, disk_Do.f l0 l3 = some p := ⟨_, rfl⟩
 have e8 : ∀ k, 80 * l3.length + 200 ≤ k → berylref20_Do.f k l0 l3 = some p4 := fun k hk => by rw [do_ref l0 (by omega) l3 (by omega) k hk, e7]
 obtain ⟨p5, e9⟩ : ∃ p, disk_Torn.f l0 l3 a4 a5 = some p := ⟨_, rfl⟩
 have e10 : ∀ k, 80 * l3.length + 200 ≤ k → berylref20_Torn.f k l0 l3 a4 a5 = some p5 := fun k hk => by rw [torn_ref l0 (by omega) l3 (by omega) a4 a5 k hk, e9]
 have s1 : ∀ k, 1000000 ≤ k → berylref20_SamePuts.f k p1.1 p1.1 = some true := fun k hk => same_puts p1.1 (by omega) k (by omega)
 have s2 : ∀ k, 1000000 ≤ k → berylref20_SamePuts.f k p2.1 p2.1 = some true := fun k hk => same_puts p2.1 (by omega) k (by omega)
 have s3 : ∀ k, 1000000 ≤ k → berylref20_SamePuts.f k p3.1 p3.1 = some true := fun k hk => same_puts p3.1 (by omega) k (by omega)
 have b1 : 1000000 ≤ n + 2 := by omega
 have b2 : 1000000 ≤ n + 1 := by omega
 have b4 : 80 * l3.length + 200 ≤ n + 1 := by omega
 have b5 : 80 * l3.length + 200 ≤ n := by omega
 rw [← hn]
 clear hn hp1 hp2 hp3 q1 q2 q3 hx0 hx1 hx3 htot hrb hbnd hs3 hB hB3 h2
 rw [beryllaw20_DiskWrites.j0, if_neg (by decide), e1, Option.bind_some, e2, Option.bind_some, e3, Option.bind_some, e4, Option.bind_some, s1 _ b1, Option.bind_some, if_pos rfl, if_pos rfl, s2 _ b1, Option.bind_some, if_pos rfl,
  bne_self_eq_false, beryllaw20_DiskWrites.j1, if_neg (by decide), e5, Option.bind_some, e6, Option.bind_some, e7, Option.bind_some, e8 _ b4, Option.bind_some, s3 _ b2, Option.bind_some, if_pos rfl, if_pos rfl, if_pos rfl,
  bne_self_eq_false, beryllaw20_DiskWrites.j2, if_neg (by decide), e9, Option.bind_some, e10 _ b5, Option.bind_some, if_pos rfl, if_pos rfl, beq_self_eq_true]
end Go.Proofs.YtcdpkdehogcjnaaGreat.Print
namespace Go.Proofs.YtcdpkdehogcjnaaGreat.Print
open Go Go.ChangeShapes Go.WideShapes Go.ChangeAt Go.RowKit Go.Deep Go.Proofs.YtcdpkdehogcjnaaGreatW.PrintWords Go.Proofs.YtcdpkdehogcjnaaGreatW.PrintLast Go.Proofs.YtcdpkdehogcjnaaGreatW.PrintMore
section
variable {H : Type} {enc : TypeId × Value → H} {W : World} {held : Bool}
set_option maxRecDepth 100000 in
theorem lift_ints {a : Option Addr} {len cap : Nat} {d : DataW H} {ps : List MemPlace} (h : DataW.Trod enc Tryz.prog W 0 (fun _ => true) held 24 (.slice a len cap) d ps) (hz : ∀ n ∈ d.weights Tryz.prog 24, n ≤ reachBytes) :
  ∃ l : List Int, l.length = len ∧ len ≤ cap ∧ Kd.C (Kd.int .i64) W a len l ∧ len * 8 ≤ 140737488351232 ∧ ∀ x ∈ l, (Lit.int .i64 x).wf = true := by
 obtain ⟨fuel, hf⟩ := h
 rcases open_ints Tryz.underlying24 Tryz.underlying3 (by kernel_rfl) hf with ⟨hcs, _⟩ | ⟨x, l', c', zs, hcs, _, hl, hm, hzl, hx, hcell, hwf⟩
 ·simp [Value.cells] at hcs
  obtain ⟨rfl, rfl, rfl⟩ := hcs
  exact ⟨[], rfl, Nat.le_refl _, Kd.C_nil _ _, by simp, by simp⟩
 ·simp [Value.cells] at hcs
  obtain ⟨rfl, rfl, rfl⟩ := hcs
  simp only [if_true] at hzl
  obtain ⟨hd, _⟩ := Prod.mk.inj hx
  subst hd
  have hlen : (zs.take len).length = len := by simp; omega
  have hw := hz ((lits (H := H) .i64 (zs.take len)).length + (lits (H := H) .i64 (zs.drop len)).length |>.mul (Tryz.prog.bytesOf 3)) (by
   rw [DataW.weights, Tryz.underlying24]
   exact List.mem_cons_self ..)
  rw [show Tryz.prog.bytesOf 3 = 8 from by kernel_rfl] at hw
  have hw2 : zs.length * 8 ≤ reachBytes := by
   simp [lits] at hw
   omega
  refine ⟨zs.take len, hlen, hl, ⟨hlen, by unfold maxLen at hm; omega, fun _ => ⟨x, rfl, fun j p hj => ⟨[.int .i64 p], rfl, rfl, fun i u hu => ?_⟩⟩⟩, by unfold reachBytes at hw2; omega, fun b hb => hwf b (List.mem_of_mem_take hb)⟩
  cases i with
  | succ i => simp at hu
  | zero =>
   simp at hu
   subst hu
   show W.cell? (x.add (j * 1 + 0)) = _
   rw [Nat.mul_one, Nat.add_zero]
   have h1 : zs[j]? = some p := by
    rw [List.getElem?_take] at hj
    split at hj
    ·exact hj
    ·cases hj
   have h2 := hcell j (List.getElem?_eq_some_iff.1 h1).1
   rw [List.getD_eq_getElem?_getD, h1] at h2
   exact h2
end
end Go.Proofs.YtcdpkdehogcjnaaGreat.Print
namespace Go.Proofs.YtcdpkdehogcjnaaGreat.Print
open Go Go.ChangeShapes Go.WideShapes Go.ChangeAt Go.RowKit Go.Deep Go.Proofs.YtcdpkdehogcjnaaGreatW.PrintWords Go.Proofs.YtcdpkdehogcjnaaGreatW.PrintLast Go.Proofs.YtcdpkdehogcjnaaGreatW.PrintMore
section
variable {H : Type} {enc : TypeId × Value → H} {W : World} {held : Bool}
set_option maxRecDepth 100000 in
theorem lift_puts {a : Option Addr} {len cap : Nat} {d : DataW H} {ps : List MemPlace} (h : DataW.Trod enc Tryz.prog W 0 (fun _ => true) held 25 (.slice a len cap) d ps) (hz : ∀ n ∈ d.weights Tryz.prog 25, n ≤ reachBytes) :
  ∃ l : List S42, l.length = len ∧ len ≤ cap ∧ Kd.C k42 W a len l ∧ len * 32 ≤ 140737488351232 ∧ ∀ x ∈ l, PutFits x := by
 obtain ⟨fuel, hf⟩ := h
 rcases open_slice_pairs Tryz.underlying25 Tryz.underlying42 (by kernel_rfl) rfl rfl (by kernel_rfl) (by kernel_rfl) hf with ⟨hcs, _⟩ | ⟨x, l', c', m, n, V0, V1, D0, D1, P0, P1, hcs, _, hl, hm, hmm, hx, hcell⟩
 ·simp [Value.cells] at hcs
  obtain ⟨rfl, rfl, rfl⟩ := hcs
  exact ⟨[], rfl, Nat.le_refl _, Kd.C_nil _ _, by simp, by simp⟩
 ·simp [Value.cells] at hcs
  obtain ⟨rfl, rfl, rfl⟩ := hcs
  simp only [if_true] at hmm
  subst hmm
  obtain ⟨hd, _⟩ := Prod.mk.inj hx
  subst hd
  rw [DataW.weights, Tryz.underlying25] at hz
  have hsz := hz _ (List.mem_cons_self ..)
  rw [show Tryz.prog.bytesOf 42 = 32 from by kernel_rfl] at hsz
  simp at hsz
  have each : ∀ i, i < len → ∃ y : S42 × Option Addr × Nat, V0 i = .int .i64 y.1.f0 ∧ V1 i = .slice y.2.1 y.1.f1.length y.2.2 ∧ y.1.f1.length ≤ y.2.2 ∧ Kd.C (Kd.int .u8) W y.2.1 y.1.f1.length y.1.f1 ∧ PutFits y.1 := by
   intro i hi
   obtain ⟨_, _, g0, g1⟩ := hcell i (by omega)
   obtain ⟨z, hz0, hz1, hzw⟩ := DataW.trod_int Tryz.underlying3 g0
   have hw1 : ∀ n ∈ (D1 i).weights Tryz.prog 22, n ≤ reachBytes := by
    intro n hn
    refine hz n (List.mem_cons_of_mem _ (List.mem_append_left _ (weights_all (d := .agg [D0 i, D1 i]) (List.mem_map.2 ⟨i, List.mem_range.2 hi, rfl⟩) n ?_)))
    rw [DataW.weights, Tryz.underlying42]
    show n ∈ DataW.weightsEach Tryz.prog [3, 22] [D0 i, D1 i]
    simp [DataW.weightsEach, hn]
   obtain ⟨A1, c1, xs, hv, hc1, hC, hsz1, hwf⟩ := lift_bytes g1 hw1
   refine ⟨(⟨z, xs⟩, A1, c1), by simpa using hz0, hv, hc1, hC, hzw, hsz1, hwf⟩
  haveI : Inhabited (S42 × Option Addr × Nat) := ⟨(⟨0, []⟩, none, 0)⟩
  obtain ⟨y, hy⟩ := choose_lt each
  refine ⟨(List.range len).map fun i => (y i).1, by simp, hl, ⟨by simp, by unfold maxLen at hm; omega, fun _ => ⟨x, rfl, fun j p hj => ?_⟩⟩, by unfold reachBytes at hsz; omega, fun q hq => ?_⟩
  ·rw [List.getElem?_map] at hj
   obtain ⟨i, hi, rfl⟩ := Option.map_eq_some_iff.1 hj
   obtain ⟨hjl, hji⟩ := List.getElem?_eq_some_iff.1 hi
   simp at hjl hji
   subst hji
   obtain ⟨e0, e1, e2, e3, e4⟩ := hy j hjl
   obtain ⟨q0, q1, _, _⟩ := hcell j (by omega)
   refine ⟨_, rfl, k42_mk W (y j).1 e2 e3, fun i u hu => ?_⟩
   match i, hu with
   | 0, hu =>
    simp at hu
    subst hu
    rw [e0] at q0
    exact q0
   | 1, hu =>
    simp at hu
    subst hu
    rw [e1] at q1
    exact q1
  ·obtain ⟨i, hi, rfl⟩ := List.mem_map.1 hq
   exact (hy i (List.mem_range.1 hi)).2.2.2.2
end
end Go.Proofs.YtcdpkdehogcjnaaGreat.Print
namespace Go.Proofs.YtcdpkdehogcjnaaGreat.diskWrites
open Go Go.ChangeShapes Go.WideShapes Go.ChangeAt Go.RowKit Go.Proofs.YtcdpkdehogcjnaaGreat.Print
open Go.Proofs.YtcdpkdehogcjnaaGreatW.PrintWords
theorem own : ownKnob Tryz.prog.godebug = none := by kernel_rfl
theorem laidOut : laidOutB Tryz.prog = true := by kernel_rfl
theorem small {H : Type} {ts : List TypeId} {ds : List (DataW H)} (hsz : (DataW.weightsEach Tryz.prog ts ds).all (· ≤ reachBytes) = true) {j : Nat} {t : TypeId} {d : DataW H} (ht : ts[j]? = some t) (hd : ds[j]? = some d) : ∀ n ∈ d.weights Tryz.prog t, n ≤ reachBytes := by
 intro n hn
 have := List.all_eq_true.1 hsz _ (DataW.weights_mem_each ht hd n hn)
 simpa using this
theorem bytes_of (xs : List Int) (h : ∀ b ∈ xs, (Lit.int .u8 b).wf = true) : IsBytes xs := by
 intro b hb
 have := h b hb
 simp [Lit.wf, IntKind.min, IntKind.max, IntKind.signed, IntKind.bits] at this
 omega
set_option maxRecDepth 100000 in
theorem lifted (os : Os) (started : os.Started) (H : Type) (enc : TypeId × Value → H) :
  ReturnsInHanded {} Tryz.checked os 3 .any (Rows.diskWritesSpec.pre6 enc Tryz.prog Tryz.f3 Rows.diskWritesRow.domain false) (Rows.diskWritesSpec.post enc Tryz.prog Tryz.f3 false true false false) := by
 refine returnsInHanded_of_change_sized (C := Tryz.checked) own started (by kernel_rfl) Tryz.func3
  (ChangeSpec.witness6 (enc := enc) (C := Tryz.checked) false ⟨#[], #[.slice none 0 0, .slice none 0 0, .slice none 0 0, .slice none 0 0, .int .i64 0, .int .i64 0], []⟩ 8 (by kernel_rfl) (by kernel_rfl) (by kernel_rfl) (by kernel_rfl)) ?_
 intro W base args ds gs before hval0 hW hcnd hsz0 _
 have hsz : (DataW.weightsEach Tryz.prog (Tryz.f3.params.toList ++ Rows.diskWritesSpec.plain.varTypes Tryz.prog) (ds ++ gs)).all (· ≤ reachBytes) = true := hsz0
 have hval : ∀ (j : Nat) t v, Tryz.f3.params[j]? = some t → args[j]? = some v → Value.okWide Tryz.prog W .any base t v := hval0
 have hW' := hW
 obtain ⟨p, q, hA0, hV, rfl, hfz, hnd⟩ := hW
 have hA : DataW.TrodAll enc Tryz.prog W 0 (fun _ => true) true Tryz.f3.params.toList args.toList ds p := hA0
 rw [Tryz.params3] at hA hval hsz
 obtain ⟨v0, vs0, d0, ds0, p0, q0, hargs, rfl, rfl, h0, r0⟩ := trodAll_cons hA
 obtain ⟨v1, vs1, d1, ds1, p1, q1, rfl, rfl, rfl, h1, r1⟩ := trodAll_cons r0
 obtain ⟨v2, vs2, d2, ds2, p2, q2, rfl, rfl, rfl, h2, r2⟩ := trodAll_cons r1
 obtain ⟨v3, vs3, d3, ds3, p3, q3, rfl, rfl, rfl, h3, r3⟩ := trodAll_cons r2
 obtain ⟨v4, vs4, d4, ds4, p4, q4, rfl, rfl, rfl, h4, r4⟩ := trodAll_cons r3
 obtain ⟨v5, vs5, d5, ds5, p5, q5, rfl, rfl, rfl, h5, r5⟩ := trodAll_cons r4
 obtain ⟨rfl, rfl, rfl⟩ := trodAll_nil r5
 obtain rfl : args = #[v0, v1, v2, v3, v4, v5] := by cases args; simp_all
 obtain ⟨rfl, rfl⟩ := trodVars_none hV
 obtain ⟨a0, len0, cap0, rfl⟩ := okWide_slice Tryz.underlying22 (hval 0 22 v0 rfl rfl)
 obtain ⟨a1, len1, cap1, rfl⟩ := okWide_slice Tryz.underlying23 (hval 1 23 v1 rfl rfl)
 obtain ⟨a2, len2, cap2, rfl⟩ := okWide_slice Tryz.underlying24 (hval 2 24 v2 rfl rfl)
 obtain ⟨a3, len3, cap3, rfl⟩ := okWide_slice Tryz.underlying25 (hval 3 25 v3 rfl rfl)
 obtain ⟨a4, rfl, rfl, rfl, w4⟩ := open_int Tryz.underlying3 (hval 4 3 v4 rfl rfl) h4
 obtain ⟨a5, rfl, rfl, rfl, w5⟩ := open_int Tryz.underlying3 (hval 5 3 v5 rfl rfl) h5
 have k0 := h0
 have lt0 : ∀ x ∈ p0, x.block < W.heap.size := by obtain ⟨m, hm⟩ := k0; exact DataW.trod_lt m _ _ _ hm
 have k1 := h1
 have lt1 : ∀ x ∈ p1, x.block < W.heap.size := by obtain ⟨m, hm⟩ := k1; exact DataW.trod_lt m _ _ _ hm
 have k2 := h2
 have lt2 : ∀ x ∈ p2, x.block < W.heap.size := by obtain ⟨m, hm⟩ := k2; exact DataW.trod_lt m _ _ _ hm
 have k3 := h3
 have lt3 : ∀ x ∈ p3, x.block < W.heap.size := by obtain ⟨m, hm⟩ := k3; exact DataW.trod_lt m _ _ _ hm
 obtain ⟨A0, c0, l0, e0, hc0, hr0, hz0, hw0⟩ := (by obtain ⟨m, hm⟩ := h0; exact lift_bytes (v := .slice a0 len0 cap0) (by simpa [Value.cells] using hm) (small hsz (j := 0) rfl rfl) : ∃ (A : Option Addr) (c : Nat) (xs : List Int), Value.slice a0 len0 cap0 = .slice A xs.length c ∧ xs.length ≤ c ∧ Kd.C (Kd.int .u8) W A xs.length xs ∧ xs.length ≤ 140737488351232 ∧ ∀ b ∈ xs, (Lit.int .u8 b).wf = true)
 injection e0 with e00 e01 e02
 subst e00 e01 e02
 obtain ⟨l1, e1, hc1, hr1, hz1, hw1⟩ := lift_recs h1 (small hsz (j := 1) rfl rfl)
 subst e1
 obtain ⟨l2, e2, hc2, hr2, hz2, hw2⟩ := lift_ints h2 (small hsz (j := 2) rfl rfl)
 subst e2
 obtain ⟨l3, e3, hc3, hr3, hz3, hw3⟩ := lift_puts h3 (small hsz (j := 3) rfl rfl)
 subst e3
 obtain ⟨k, hk⟩ := writes_law l0 l1 l2 l3 a4 a5 (bytes_of l0 hw0) hz1 hw1 hz2 hw2 hz3 hw3
 clear hA0 hval0 hsz0 hsz
 refine (beryllaw20_DiskWrites.calls k a0 cap0 l0 a1 cap1 l1 a2 cap2 l2 a3 cap3 l3 a4 a5 true W hr0 hc0 hr1 hc1 hr2 hc2 hr3 hc3 hk).mono fun e W' ⟨he, bel⟩ => ?_
 subst he
 exact ⟨_, rfl, _, _, _, [], _, [], hW', trodAll_mk1 (shut_bool Tryz.underlying4 _), (trodAll_cons_mk (Below.trod laidOut (by kernel_rfl) (of_decide_eq_true (by kernel_rfl)) k0 bel lt0) (trodAll_cons_mk (Below.trod laidOut (by kernel_rfl) (of_decide_eq_true (by kernel_rfl)) k1 bel lt1) (trodAll_cons_mk (Below.trod laidOut (by kernel_rfl) (of_decide_eq_true (by kernel_rfl)) k2 bel lt2) (trodAll_cons_mk (Below.trod laidOut (by kernel_rfl) (of_decide_eq_true (by kernel_rfl)) k3 bel lt3) (trodAll_cons_mk (shut_int Tryz.underlying3 w4) (trodAll_cons_mk (shut_int Tryz.underlying3 w5) trodAll_mk0)))))), rfl, bel.frame _, fun h => by cases h⟩
theorem over : Rows.diskWritesRow.holds Tryz.pinned (OpenSpec.ofChange Rows.diskWritesSpec) :=
 OpenClaim.holds_of_wide 3 Tryz.f3 rfl rfl rfl rfl rfl rfl rfl ⟨rfl, rfl, rfl, rfl, rfl⟩ rfl rfl rfl rfl rfl (by kernel_rfl) Tryz.func3 (by kernel_rfl)
  (of_decide_eq_true (by kernel_rfl)) (by unfold Func.isWrapper; first | (rw [if_pos (by decide +kernel)]; kernel_rfl) | (rw [if_neg (by decide +kernel)]; exact ⟨rfl, rfl⟩))
  (fun os started H enc _ => lifted os started H enc)
theorem proved : Rows.DiskWritesSaid := over
#print axioms proved
end Go.Proofs.YtcdpkdehogcjnaaGreat.diskWrites
namespace Go.Proofs.YtcdpkdehogcjnaaGreat
/-- The row, under a short name, for the claim. -/
theorem diskWrites_holds : Rows.DiskWritesSaid := diskWrites.proved
end Go.Proofs.YtcdpkdehogcjnaaGreat
