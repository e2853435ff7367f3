/- What writing records comes to, and that the examples at the head of the statements hold: contracts, whatever the input. -/
import Derived.Deep.RegionHeld3
import Derived.Test.YtcdpkdehogcjnaaGreatRC
import Derived.Test.YtcdpkdehogcjnaaGreatRB
import Derived.Test.YtcdpkdehogcjnaaGreatR3
import Derived.Test.YtcdpkdehogcjnaaGreatR4
set_option linter.unusedVariables false
set_option linter.unusedSimpArgs false
namespace Go.Proofs.YtcdpkdehogcjnaaGreat.Print
open Go Go.RowKit Go.Shelf Go.Proofs.YtcdpkdehogcjnaaGreatW.PrintWords Go.Proofs.YtcdpkdehogcjnaaGreatW.PrintLast Go.Proofs.YtcdpkdehogcjnaaGreatW.PrintMore
attribute [local go_sem] Oper.semAt_some
theorem pieces_any (A : Option Addr) (n c : Nat) (w : World) : Calls Tryz.prog 68 #[.slice A n c] w fun e w' => e = .returned (.func (.func 93) #[] #[.pointer (some ⟨w.heap.size, 0, none⟩)]) ∧ w' = w.alloc (.cells #[.slice A n c] 22) := by
 have hmf : ∀ (fn : Fn) (first cap : Array Value) (w : World), (Instr.makeFunc fn first cap).run Tryz.prog w = .ok (.func fn first cap) w := fun _ _ _ _ => rfl
 go_enter Tryz.func68, Tryz.ntmps68
 go_wp2_with fail
 go_returns
 exact ⟨rfl, rfl⟩
theorem listIn_append {n : Nat} {P : Program} {ops : Array Oper} {rest : List Oper} {o : Oper} {a : Act} {Q : Exit → Act → World → Prop} {w w' : World} {v : Value} (hg : o.guard = none) (s x : Operand) (t : TypeId) (v1 v2 : Value)
  (hop : o.op = Op.call { callee := Callee.builtin Builtin.append, args := #[s, x], argTypes := #[t, t] }) (hs : a.eval s = v1) (hx : a.eval x = v2) (hrun : (Builtin.append_ #[t, t] o.type #[v1, v2]).run P w = .ok v w')
  (h : wpListIn Fence.wide n P ops Q rest (a.put o.dst v) w') : wpListIn Fence.wide n P ops Q (o :: rest) a w := by
 have hw : Region.wanted o (yielded ops a.tmps) = true := by simp [Region.wanted, hg]
 show (if Region.wanted o (yielded ops a.tmps) then _ else _)
 rw [if_pos hw]
 refine ⟨fun _ _ => trivial, ?_⟩
 show o.uponIn Fence.wide n P a _ Q ((o.semAt none a.eval).run P w)
 have e : (o.semAt none a.eval).run P w = .ok (.value v) w' := by
  simp [Oper.semAt, execOp, hop, resolve, invoke, builtin, hs, hx, hrun, Result.andThen]
 rw [e]
 exact h
/-- append(l[:m:m], x): a new row -/
theorem cut_append {W : World} {A : Option Addr} {n m : Nat} {xs : List Int} (x : Int) (ty : TypeId) (h : Kd.C (Kd.int .i64) W A n xs) (hm : m ≤ n) (hb : n ≤ 17592186044415) :
  ∃ v w', (Builtin.append_ #[24, 24] ty #[.slice A m m, .slice (some ⟨W.heap.size, 0, none⟩) 1 1]).run Tryz.prog (W.alloc (.cells #[.int .i64 x] 3)) = .ok v w' ∧
   Kd.R (Kd.int .i64) 3 w' W.heap.size (fun _ => True) v (xs.take m ++ [x]) ∧ Below W.heap.size W w' := by
 obtain ⟨i0, hi, hz0, hz1, hz2⟩ := info_parts info3
 have hl : xs.length = n := Kd.C_len h
 have hnews : ∀ j u, ([Value.int .i64 x] : List Value)[j]? = some u → (W.alloc (.cells #[.int .i64 x] 3)).cell? ((⟨W.heap.size, 0, none⟩ : Addr).add j) = some u := by
  intro j u hj
  have hc := blk_cell (heap_alloc_new W (.cells #[.int .i64 x] 3)) 0
  match j with
  | 0 => simp at hj; subst hj; first | exact hc | simp [Addr.add]
  | j + 1 => simp at hj
 have fin : ∀ (v : Value) (w' : World), w'.ownsRow (W.alloc (.cells #[.int .i64 x] 3)).heap.size 3 1 v (m + 1) ((xs.take m).map (Value.int .i64) ++ [.int .i64 x]) → (W.alloc (.cells #[.int .i64 x] 3)).grownBy w' none →
   Kd.R (Kd.int .i64) 3 w' W.heap.size (fun _ => True) v (xs.take m ++ [x]) ∧ Below W.heap.size W w' := by
  intro v w' ho hg
  refine ⟨Kd.R_of_own (enc := Value.int .i64) ?_ (fun _ _ => trivial), ?_⟩
  ·have e : encs (Value.int .i64) (xs.take m ++ [x]) = (xs.take m).map (Value.int .i64) ++ [.int .i64 x] := by simp [encs]
   rw [e, show (xs.take m ++ [x]).length = m + 1 by simp; omega]
   exact own_less ho (by simp)
  ·exact (below_alloc (Below.refl _ _) _).grown hg (by simp) (fun k hk => by cases hk)
 cases A with
 | some ad =>
  have hrd := Kd.reads_of_C (d := (0 : Int)) (h1 := fun _ => rfl) h
  obtain ⟨v, w', hrun, ho, hg⟩ := run_append_arg_grows (P := Tryz.prog) (W.alloc (.cells #[.int .i64 x] 3)) 24 ty 3 i0 (.int .i64 0) 1 8 Tryz.underlying24 hi hz0 hz1 hz2 rfl (by decide) ad m m ((xs.take m).map (Value.int .i64)) (by simp; omega)
   (fun j u hj => by
    rw [List.getElem?_map] at hj
    obtain ⟨y, hy, rfl⟩ := Option.map_eq_some_iff.1 hj
    have hy2 : xs[j]? = some y := by rw [List.getElem?_take] at hy; split at hy; exact hy; cases hy
    obtain ⟨hjl, hyj⟩ := List.getElem?_eq_some_iff.1 hy2
    obtain ⟨ad', e, hc⟩ := hrd.2.2 (by omega)
    obtain rfl := Option.some.inj e
    have h1 := hc j (by omega)
    rw [List.getD_eq_getElem?_getD, hy2] at h1
    have hlt := World.block_lt_of_cell? _ _ h1
    exact (World.cell?_alloc_lt _ _ _ hlt).trans h1)
   ⟨W.heap.size, 0, none⟩ 1 1 [.int .i64 x] rfl hnews (by omega) (by unfold maxLen; omega) (by omega)
  exact ⟨v, w', hrun, fin v w' ho hg⟩
 | none =>
  have hx : xs = [] := C_none h
  subst hx
  obtain rfl : m = 0 := by simp at hl; omega
  obtain ⟨v, w', hrun, ho, hg, _⟩ := run_append_own (P := Tryz.prog) (W.alloc (.cells #[.int .i64 x] 3)) (W.alloc (.cells #[.int .i64 x] 3)).heap.size 24 ty 3 i0 (.int .i64 0) 1 8 Tryz.underlying24 hi hz0 hz1 hz2 rfl (by decide) (.slice none 0 0) 0 [] (World.ownsRow_nil _ _ _ _) ⟨W.heap.size, 0, none⟩ 1 1 [.int .i64 x] rfl hnews (by simp [Value.oneCell']) (by unfold maxLen; omega) (by omega) (Nat.le_refl _)
  exact ⟨v, w', hrun, fin v w' (by simpa using ho) (by simpa [Value.ownBlock] using hg)⟩
set_option maxRecDepth 100000 in
set_option maxHeartbeats 4000000 in
theorem writes_good (g mb : Nat) (A : Option Addr) (n c j : Nat) (st : HSt) (vr : Value) (nb : Nat) (A1 : Option Addr) (c1 : Nat) (l : List S40) (w : World)
  (hg : w.heap[g]? = some (.cells #[.slice A n c, .int .i64 j, .int .i64 st.ver, .map (some mb), vr] 81 (0, 0))) (hn : n = nb * 64) (h8 : 8 ≤ nb) (h256 : nb ≤ 256)
  (hm : MapAt kInt w mb (usedMap st.used))
  (hr : Kd.C k40 w A1 l.length l) (hc : l.length ≤ c1) (hj1 : j ≤ 1) (hv0 : 0 ≤ st.ver) (hgood : writesOk nb st.ver (recsB l) = true) (hfl : ((recsB l).length + 61) / 62 ≤ (freeL st.used 2 (nb - 2)).length) :
  Calls Tryz.prog 48 #[.pointer (some ⟨g, 0, none⟩), .slice A1 l.length c1] w fun e w' =>
   ∃ v, e = .returned (.tuple #[v, .int .i64 0]) ∧ Kd.R k42 42 w' w.heap.size (fun _ => True) v (writesF j st.ver (freeL st.used 2 (nb - 2)) (recsB l)) ∧ Below w.heap.size w w' := by
 subst hn
 have hok := hgood
 unfold writesOk at hok
 simp at hok
 obtain ⟨hk1, hk2⟩ := hok
 have hrb : roomN nb ≤ 7874 := by unfold roomN; omega
 have HP := Aside0.mk (bytesOf_f l (Kd.C_max hr) (by omega))
 have HR := Aside0.mk hr
 have HM := Aside0.mk hm
 have hgl := blk_lt hg
 have c0 := blk_cell hg 0
 have c2 := blk_cell hg 2
 simp at c0 c2
 obtain ⟨b, hbl⟩ : ∃ b, b = (recsB l).length := ⟨_, rfl⟩
 have HBL := Aside0.mk hbl
 rw [← hbl] at hk1 hfl
 have HG := Aside0.mk hg
 obtain ⟨rm, hrm⟩ : ∃ rm, rm = roomN nb := ⟨_, rfl⟩
 have HRM := Aside0.mk (room_f nb h8 h256)
 rw [← hrm] at HRM hk1 hrb
 have HRN := Aside0.mk hrm
 clear hbl hgood hrm hg hr hm
 have e1 : decide (rm < b) = false := decide_eq_false (by omega)
 have e2 : decide (1099511627776 ≤ st.ver) = false := decide_eq_false (by omega)
 obtain ⟨M, hM, hMb⟩ : ∃ M : Nat, ((b : Int) + 62 - 1) / 62 = (M : Int) ∧ M = (b + 61) / 62 := ⟨(b + 61) / 62, by omega, rfl⟩
 have HMB := Aside0.mk hMb
 rw [← hMb] at hfl
 have hM7 : M ≤ 127 := by omega
 clear hMb
 refine (callsIn_wide (n := 3)).1 ?_
 refine callsIn_of_wp_marks Tryz.func48 rfl trivial ?_ rfl
 simp only [Tryz.ntmps48, List.size_toArray, List.length_cons, List.length_nil, Nat.reduceAdd, Nat.reduceSub, Array.replicate_succ, Array.replicate_zero, List.push_toArray, List.append_toArray, List.nil_append, List.cons_append]
 gi_wp2
 refine ⟨trivial, ?_⟩
 refine CallsIn.mono (callsIn_wide.2 (disk_bytesOf.calls _ (fun _ => True) _ _ l (recsB l) w (C_V HR.out hc) HP.out)) ?_
 rintro e w1 ⟨v1, rfl, hR1, hB1⟩
 obtain ⟨A2, c2', rfl⟩ := Kd.R_slice hR1
 rw [← HBL.out] at hR1 ⊢
 have HR1 := Aside0.mk hR1
 have HB1 := Aside0.mk hB1
 have d0 : w1.cell? ⟨g, 0, none⟩ = some (.slice A (nb * 64) c) := (hB1.cell (p := ⟨g, 0, none⟩) hgl).trans c0
 have d2 : w1.cell? ⟨g, 2, none⟩ = some (.int .i64 st.ver) := (hB1.cell (p := ⟨g, 2, none⟩) hgl).trans c2
 have HM1 : Aside0 (MapAt kInt w1 mb (usedMap st.used)) := ⟨HM.out.move (hB1.block mb HM.out.lt)⟩
 have HG1 : Aside0 (w1.heap[g]? = some (.cells #[.slice A (nb * 64) c, .int .i64 j, .int .i64 st.ver, .map (some mb), vr] 81 (0, 0))) := ⟨(hB1.block g hgl).trans HG.out⟩
 clear hR1 hB1 c0 c2
 gi_wp2
 refine ⟨trivial, ?_⟩
 refine CallsIn.mono (callsIn_wide.2 (disk_room.calls _ _ _ HRM.out)) ?_
 rintro e w2 ⟨rfl, ⟨nd, rfl⟩⟩
 gi_wp2
 refine ⟨trivial, ?_⟩
 refine CallsIn.mono (callsIn_wide.2 (free_any g mb A _ c j st vr nb _ HG1.out HM1.out rfl h8 h256)) ?_
 rintro e w3 ⟨v3, rfl, hR3, hB3⟩
 obtain ⟨A3, c3, rfl, hl3, hC3⟩ := Kd.R_reads hR3
 generalize hfr : freeL st.used 2 (nb - 2) = fr at hR3 hl3 hC3 hfl ⊢
 have hfrl : fr.length ≤ nb := by rw [← hfr]; have := freeL_len st.used (nb - 2) 2; omega
 have HFR := Aside0.mk hfr
 obtain ⟨v4, w4, hap, hR4, hB4⟩ := cut_append (W := w3) 0 24 hC3 hfl (by omega)
 have hMc : M ≤ c3 := by omega
 obtain ⟨A4, c4, rfl⟩ := Kd.R_slice hR4
 have HB3 : Aside0 (Below w.heap.size w w3) := ⟨(pw_below_drewN HB1.out nd).trans (hB3.mono HB1.out.size)⟩
 have HB4 : Aside0 (Below w.heap.size w w4) := ⟨HB3.out.trans (hB4.mono HB3.out.size)⟩
 have HR4 := Aside0.mk hR4
 have HB31 : Aside0 (Below w1.heap.size w1 w3) := ⟨(pw_below_drewN (Below.refl _ _) nd).trans hB3⟩
 have HB34 : Aside0 (Below w3.heap.size w3 w4) := ⟨hB4⟩
 clear hfr hR3 hB3 hC3 hR4 hB4
 gi_wp2_with (gi_at_builtin; refine listIn_append rfl (.tmp 41) (.tmp 42) 24 _ _ rfl rfl rfl hap ?_)
 generalize hw5 : w4.alloc (Obj.cells #[Value.slice A4 (M + 1) c4] 24) = w5
 generalize hw6 : w5.alloc (Obj.cells #[Value.slice none 0 0] 25) = w6
 have z5 : w5.heap.size = w4.heap.size + 1 := by rw [← hw5]; simp
 have z6 : w6.heap.size = w4.heap.size + 2 := by rw [← hw6]; simp [z5]
 have Z5 := Aside0.mk z5
 have Z6 := Aside0.mk z6
 clear z5 z6
 refine ⟨trivial, ?_⟩
 refine CallsIn.mono (callsIn_wide.2 (pieces_any _ _ _ _)) ?_
 rintro e w7 ⟨rfl, rfl⟩
 gi_wp2
 have hfb : w6.heap[w4.heap.size]? = some (.cells #[.slice A4 (M + 1) c4] 24 (0, 0)) := by
  rw [← hw6, ← hw5]; exact (Below.heap_alloc _ _ _ (by simp)).trans (heap_alloc_new _ _)
 have hob : w6.heap[w4.heap.size + 1]? = some (.cells #[.slice none 0 0] 25 (0, 0)) := by
  rw [← hw6, ← Z5.out]; exact heap_alloc_new _ _
 have hB6 : Below w4.heap.size w4 w6 := by rw [← hw6, ← hw5]; exact ((Below.refl _ _).alloc (Nat.le_refl _) _).alloc (by simp) _
 refine wpIn_rangeFunc_box rfl (by omega) (gf := 93) (lb := #[.pointer (some ⟨w6.heap.size, 0, none⟩)]) rfl trivial (enters_of Tryz.func93 (by kernel_rfl) rfl)
  (pieces1_box Fence.wide 2 trivial rfl (by omega) w6.heap.size A2 b c2' ?hbc (by omega)) (heap_alloc_new _ _) rfl (fun _ => rfl)
  (fun pre W => WI w w4.heap.size (w4.heap.size + 1) w6.heap.size (.slice A4 (M + 1) c4) (.slice A2 b c2') (fr.take M ++ [0]) (recsB l) (writesL (fr.take M ++ [0]) (recsB l) pre.length) W)
  (WI.own _ ?hN) (fun s W v h => h.box ?hw ?h1 ?h2 v) ?h0 (fun x => { tmps := #[.pointer (some ⟨g, 0, none⟩), .slice A1 l.length c1, undef, undef, .slice none 0 0, .int .i64 0, .slice A2 b c2', .int .i64 ↑M, .pointer (some ⟨w4.heap.size, 0, none⟩), .pointer (some ⟨w4.heap.size + 1, 0, none⟩), .int .i64 x.i, .slice x.A x.n x.c, .slice A1 l.length c1, .slice A2 b c2', .slice A2 b c2', .int .i64 ↑b, .pointer (some ⟨g, 0, none⟩), .pointer (some ⟨g, 0, none⟩), .pointer (some ⟨g, 0, none⟩), .slice A (nb * 64) c, .int .i64 (↑nb * 64), .int .i64 ↑nb, .int .i64 ↑rm, .bool false, .bool false, .pointer (some ⟨g, 0, none⟩), .pointer (some ⟨g, 0, none⟩), .pointer (some ⟨g, 1, none⟩), .pointer (some ⟨g, 2, none⟩), .int .i64 st.ver, .bool false, .bool false, .slice A2 b c2', .int .i64 ↑b, .int .i64 (↑b + 62), .int .i64 (↑b + 62 - 1), .int .i64 ↑M, .pointer (some ⟨g, 0, none⟩), .slice A3 fr.length c3, .int .i64 ↑M, .int .i64 ↑M, .slice A3 M M, .slice (some ⟨w3.heap.size, 0, none⟩) 1 1, .slice A4 (M + 1) c4, .slice A2 b c2', .func (.func 93) #[] #[.pointer (some ⟨w6.heap.size, 0, none⟩)], .int .i64 x.i, .slice x.A x.n x.c, undef, undef, undef, undef, undef, undef, undef, undef, undef, undef, undef, undef, undef, undef, undef, undef, undef, undef, undef, undef, undef, undef, undef, undef, undef, undef, undef, undef, undef, undef, undef, undef, undef, undef, undef, undef, undef, undef, undef, undef, undef, undef, undef, undef], defers := [] }) ?assign ?body ?done
 case hbc => exact (Kd.R_reads' HR1.out).2.1
 case hN => have h1 := HB4.out.size; have h2 := Z6.out; simp; omega
 case hw => have h1 := HB4.out.size; have h2 := Z6.out; omega
 case h1 => have h2 := Z6.out; omega
 case h2 => have h2 := Z6.out; omega
 case h0 =>
  have hz := Z6.out
  have hB7 : Below w4.heap.size w4 (w6.alloc (.cells #[.slice A2 b c2'] 22)) := hB6.alloc (by omega) _
  have hl : (fr.take M ++ [0]).length = M + 1 := by simp; omega
  have hR4 := HR4.out
  rw [hl] at hR4
  have hw34 := HB34.out.size
  refine ⟨HB4.out.trans (hB7.mono HB4.out.size), (Below.heap_alloc _ _ _ (blk_lt hfb)).trans hfb, Kd.R_lower (Kd.R_below hR4 hB7) HB3.out.size, ?_, ⟨_, (Below.heap_alloc _ _ _ (blk_lt hob)).trans hob, Kd.R_nil _ _ _ _ _⟩, ⟨_, heap_alloc_new _ _⟩⟩
  have h17 : Below w1.heap.size w1 (w6.alloc (.cells #[.slice A2 b c2'] 22)) := HB31.out.trans ((HB34.out.trans (hB7.mono hw34)).mono HB31.out.size)
  exact Kd.R_mono (Kd.R_below HR1.out h17) (fun _ _ => trivial)
 case assign =>
  intro l0 x W K hK
  gi_wp2
  exact hK
 case body =>
  rintro l0 pre x W hI hpre hsz
  have hxk : (pcs b A2 b c2' 0)[pre.length]? = some x := by
   obtain ⟨r, hr⟩ := hpre
   rw [← hr]
   simp
  have hbb := (Kd.R_reads' hI.hb)
  obtain ⟨hp1, hp2, hp3, hp4⟩ := pcs_at W b A2 b c2' 0 (recsB l) (Nat.le_refl _) hbb.2.1 (by have := hbb.1; rw [this]; exact hbb.2.2) pre.length x hxk
  have hpm : pre.length < M := by
   have h1 := (List.getElem?_eq_some_iff.1 hxk).1
   rw [pcs_len b _ _ _ _ (Nat.le_refl _)] at h1
   have := HMB.out
   omega
  have HI := Aside0.mk hI
  obtain ⟨ov, ho1, ho2⟩ := HI.out.ho
  obtain ⟨k, hk⟩ : ∃ k, k = pre.length := ⟨_, rfl⟩
  have HK := Aside0.mk hk
  obtain ⟨xi, xA, xn, xc⟩ := x
  have HX := Aside0.mk (⟨hpre, hsz, hxk, hbb⟩ : _ ∧ _ ∧ _ ∧ _)
  simp only [Nat.zero_add] at hp1
  rw [← hk] at hp1 hp3 hp4 hpm hI HI ho2
  dsimp only at hp1 hp2 hp3 hp4
  subst hp1
  clear hpre hsz hxk hbb hI hk
  obtain ⟨ch, hch⟩ : ∃ ch, ch = chunk (recsB l) xi := ⟨_, rfl⟩
  rw [show List.take 62 (List.drop (62 * xi) (recsB l)) = ch from hch.symm] at hp3 hp4
  subst hp3
  have HP4 := Aside0.mk hp4
  have HCH := Aside0.mk hch
  clear hp4 hch
  have hi1 : (xi : Int) < (M : Int) + 1 := by omega
  have hi2 : IntKind.i64.wrap ((xi : Int) + 1) = ((xi + 1 : Nat) : Int) := by simp [IntKind.wrap, IntKind.bits, IntKind.signed]; omega
  have hi3 : ((xi + 1 : Nat) : Int) < (M : Int) + 1 := by omega
  have hi4 : (0 : Int) ≤ (xi : Int) + 1 := by omega
  have hxn : ch.length ≤ 62 := by rw [HCH.out]; exact chunk_len _ _
  obtain ⟨z, hz⟩ : ∃ z : Nat, (62 : Int) - (ch.length : Int) = (z : Int) := ⟨62 - ch.length, by omega⟩
  have hz2 : IntKind.i64.wrap (z : Int) = (z : Int) := by simp [IntKind.wrap, IntKind.bits, IntKind.signed]; omega
  obtain ⟨Af, eA, hcf⟩ : ∃ Af, A4 = some Af ∧ ∀ k, k < M + 1 → W.cell? (Af.add k) = some (.int .i64 ((fr.take M ++ [0]).getD k 0)) := by
   have hrd := Kd.reads_of_C (d := (0 : Int)) (h1 := fun _ => rfl) (Kd.R_reads' HI.out.hF).2.2
   have hl : (fr.take M ++ [0]).length = M + 1 := by simp; omega
   obtain ⟨ad, e, hc⟩ := hrd.2.2 (by omega)
   exact ⟨ad, e, fun k hk => hc k (by omega)⟩
  subst eA
  have cf := blk_cell HI.out.hf 0
  have co := blk_cell ho1 0
  simp at cf co
  have cx := hcf xi (by omega)
  have cy : W.cell? ⟨Af.block, Af.off + (xi + 1), none⟩ = _ := hcf (xi + 1) (by omega)
  obtain ⟨fx, hfx⟩ : ∃ fx, fx = (fr.take M ++ [0]).getD xi 0 := ⟨_, rfl⟩
  obtain ⟨fy, hfy⟩ : ∃ fy, fy = (fr.take M ++ [0]).getD (xi + 1) 0 := ⟨_, rfl⟩
  rw [← hfx] at cx
  rw [← hfy] at cy
  have HFX := Aside0.mk hfx
  have HFY := Aside0.mk hfy
  clear hfx hfy
  have l1 : w4.heap.size < W.heap.size := blk_lt HI.out.hf
  have HWF : Aside0 (disk_word.f fy = some (wordL fy)) := ⟨rfl⟩
  have l2 : w4.heap.size + 1 < W.heap.size := blk_lt ho1
  have l3 : Af.block < W.heap.size := World.block_lt_of_cell? W ⟨Af.block, Af.off + (xi + 1), none⟩ cy
  have l4 : (Af.add xi).block < W.heap.size := World.block_lt_of_cell? W (Af.add xi) cx
  obtain ⟨S, hS0⟩ : ∃ S : World → Prop, S = (fun w' : World => w'.cell? ⟨w4.heap.size, 0, none⟩ = some (.slice (some Af) (M + 1) c4) ∧ w'.cell? ⟨w4.heap.size + 1, 0, none⟩ = some ov ∧ w'.cell? (Af.add xi) = some (.int .i64 fx) ∧ w'.cell? ⟨Af.block, Af.off + (xi + 1), none⟩ = some (.int .i64 fy)) := ⟨_, rfl⟩
  gi_wp2
  refine region_round_last S 21 (by kernel_rfl) (noDefer_spec (by kernel_rfl)) (fun h_ => by obtain ⟨_, _, h2_⟩ := h_; exact Exit.noConfusion (And.left h2_)) ?_ (fun Wd zd hBd hS => ?_)
  ·rw [hS0]; exact ⟨cf, co, cx, cy⟩
  subst hS0
  refine wpLast_take (i := 0) (v := ?_) (at_ rfl) (by kernel_rfl) (by kernel_rfl) (by kernel_rfl) (by kernel_rfl) (fun _ _ _ h => h) (Or.inl ⟨by rfl, ?_⟩) hS ?_
  rotate_left 1
  ·intro wq hSw
   obtain ⟨s1, s2, s3, s4⟩ := hSw
   go_simp
   all_goals with_reducible rfl
  simp only [Act.put, List.setIfInBounds_toArray, List.set_cons_zero, List.set_cons_succ]
  refine wpLast_take (i := 1) (v := ?_) (at_ rfl) (by kernel_rfl) (by kernel_rfl) (by kernel_rfl) (by kernel_rfl) (fun _ _ _ h => h) (Or.inl ⟨by rfl, ?_⟩) hS ?_
  rotate_left 1
  ·intro wq hSw
   obtain ⟨s1, s2, s3, s4⟩ := hSw
   go_simp
   all_goals with_reducible rfl
  simp only [Act.put, List.setIfInBounds_toArray, List.set_cons_zero, List.set_cons_succ]
  refine wpLast_take (i := 2) (v := ?_) (at_ rfl) (by kernel_rfl) (by kernel_rfl) (by kernel_rfl) (by kernel_rfl) (fun _ _ _ h => h) (Or.inl ⟨by rfl, ?_⟩) hS ?_
  rotate_left 1
  ·intro wq hSw
   obtain ⟨s1, s2, s3, s4⟩ := hSw
   go_simp
   all_goals with_reducible rfl
  simp only [Act.put, List.setIfInBounds_toArray, List.set_cons_zero, List.set_cons_succ]
  refine wpLast_take (i := 3) (v := ?_) (at_ rfl) (by kernel_rfl) (by kernel_rfl) (by kernel_rfl) (by kernel_rfl) (fun _ _ _ h => h) (Or.inl ⟨by rfl, ?_⟩) hS ?_
  rotate_left 1
  ·intro wq hSw
   obtain ⟨s1, s2, s3, s4⟩ := hSw
   go_simp
   all_goals with_reducible rfl
  simp only [Act.put, List.setIfInBounds_toArray, List.set_cons_zero, List.set_cons_succ]
  refine wpLast_take (i := 4) (v := ?_) (at_ rfl) (by kernel_rfl) (by kernel_rfl) (by kernel_rfl) (by kernel_rfl) (fun _ _ _ h => h) (Or.inl ⟨by rfl, ?_⟩) hS ?_
  rotate_left 1
  ·intro wq hSw
   obtain ⟨s1, s2, s3, s4⟩ := hSw
   go_simp
   all_goals with_reducible rfl
  simp only [Act.put, List.setIfInBounds_toArray, List.set_cons_zero, List.set_cons_succ]
  refine wpLast_take (i := 5) (v := ?_) (at_ rfl) (by kernel_rfl) (by kernel_rfl) (by kernel_rfl) (by kernel_rfl) (fun _ _ _ h => h) (Or.inl ⟨by rfl, ?_⟩) hS ?_
  rotate_left 1
  ·intro wq hSw
   obtain ⟨s1, s2, s3, s4⟩ := hSw
   go_simp
   all_goals with_reducible rfl
  simp only [Act.put, List.setIfInBounds_toArray, List.set_cons_zero, List.set_cons_succ]
  refine wpLast_take (i := 6) (v := ?_) (at_ rfl) (by kernel_rfl) (by kernel_rfl) (by kernel_rfl) (by kernel_rfl) (fun _ _ _ h => h) (Or.inl ⟨by rfl, ?_⟩) hS ?_
  rotate_left 1
  ·intro wq hSw
   obtain ⟨s1, s2, s3, s4⟩ := hSw
   go_simp
   all_goals with_reducible rfl
  simp only [Act.put, List.setIfInBounds_toArray, List.set_cons_zero, List.set_cons_succ]
  refine wpLast_take (i := 7) (v := ?_) (at_ rfl) (by kernel_rfl) (by kernel_rfl) (by kernel_rfl) (by kernel_rfl) (fun _ _ _ h => h) (Or.inl ⟨by rfl, ?_⟩) hS ?_
  rotate_left 1
  ·intro wq hSw
   obtain ⟨s1, s2, s3, s4⟩ := hSw
   go_simp
   all_goals with_reducible rfl
  simp only [Act.put, List.setIfInBounds_toArray, List.set_cons_zero, List.set_cons_succ]
  refine wpLast_take (i := 8) (v := ?_) (at_ rfl) (by kernel_rfl) (by kernel_rfl) (by kernel_rfl) (by kernel_rfl) (fun _ _ _ h => h) (Or.inl ⟨by rfl, ?_⟩) hS ?_
  rotate_left 1
  ·intro wq hSw
   obtain ⟨s1, s2, s3, s4⟩ := hSw
   go_simp
   all_goals with_reducible rfl
  simp only [Act.put, List.setIfInBounds_toArray, List.set_cons_zero, List.set_cons_succ]
  refine wpLast_take (i := 9) (v := ?_) (at_ rfl) (by kernel_rfl) (by kernel_rfl) (by kernel_rfl) (by kernel_rfl) (fun _ _ _ h => h) (Or.inl ⟨by rfl, ?_⟩) hS ?_
  rotate_left 1
  ·intro wq hSw
   obtain ⟨s1, s2, s3, s4⟩ := hSw
   go_simp
   all_goals with_reducible rfl
  simp only [Act.put, List.setIfInBounds_toArray, List.set_cons_zero, List.set_cons_succ]
  refine wpLast_take (i := 11) (v := ?_) (at_ rfl) (by kernel_rfl) (by kernel_rfl) (by kernel_rfl) (by kernel_rfl) (fun _ _ _ h => h) (Or.inl ⟨by rfl, ?_⟩) hS ?_
  rotate_left 1
  ·intro wq hSw
   obtain ⟨s1, s2, s3, s4⟩ := hSw
   go_simp
   all_goals with_reducible rfl
  simp only [Act.put, List.setIfInBounds_toArray, List.set_cons_zero, List.set_cons_succ]
  refine wpLast_take (i := 12) (v := ?_) (at_ rfl) (by kernel_rfl) (by kernel_rfl) (by kernel_rfl) (by kernel_rfl) (fun _ _ _ h => h) (Or.inl ⟨by rfl, ?_⟩) hS ?_
  rotate_left 1
  ·intro wq hSw
   obtain ⟨s1, s2, s3, s4⟩ := hSw
   go_simp
   all_goals with_reducible rfl
  simp only [Act.put, List.setIfInBounds_toArray, List.set_cons_zero, List.set_cons_succ]
  refine wpLast_take (i := 13) (v := ?_) (at_ rfl) (by kernel_rfl) (by kernel_rfl) (by kernel_rfl) (by kernel_rfl) (fun _ _ _ h => h) (Or.inl ⟨by rfl, ?_⟩) hS ?_
  rotate_left 1
  ·intro wq hSw
   obtain ⟨s1, s2, s3, s4⟩ := hSw
   go_simp
   all_goals with_reducible rfl
  simp only [Act.put, List.setIfInBounds_toArray, List.set_cons_zero, List.set_cons_succ]
  refine wpLast_take (i := 14) (v := ?_) (at_ rfl) (by kernel_rfl) (by kernel_rfl) (by kernel_rfl) (by kernel_rfl) (fun _ _ _ h => h) (Or.inl ⟨by rfl, ?_⟩) hS ?_
  rotate_left 1
  ·intro wq hSw
   obtain ⟨s1, s2, s3, s4⟩ := hSw
   go_simp
   all_goals with_reducible rfl
  simp only [Act.put, List.setIfInBounds_toArray, List.set_cons_zero, List.set_cons_succ]
  refine wpLast_ready (rs := [10, 15]) (by kernel_rfl) (by simp) ?_
  refine eachLast_cons (at_ rfl) (fun K hK => ?_) (eachLast_cons (at_ rfl) (fun K hK => ?_) eachLast_nil)
  ·refine goes_ Tryz.func64 (by kernel_rfl) rfl #[.int .i64 fy] (by rfl) rfl rfl (by (try simp only [List.map_toArray, List.map_cons, List.map_nil]); first | done | rfl) ?_
   with_reducible refine (disk_word.calls fy (wordL fy) _ HWF.out).mono ?_
   rintro e Wa ⟨v58, rfl, hR58, hB⟩
   refine ⟨_, rfl, ?_⟩
   rw [zd] at hB
   have hBa : Below W.heap.size W Wa := hBd.trans hB
   have hSa : (fun w' : World => w'.cell? ⟨w4.heap.size, 0, none⟩ = some (.slice (some Af) (M + 1) c4) ∧ w'.cell? ⟨w4.heap.size + 1, 0, none⟩ = some ov ∧ w'.cell? (Af.add xi) = some (.int .i64 fx) ∧ w'.cell? ⟨Af.block, Af.off + (xi + 1), none⟩ = some (.int .i64 fy)) Wa := ⟨(hBa.cell (p := ⟨w4.heap.size, 0, none⟩) l1).trans cf, (hBa.cell (p := ⟨w4.heap.size + 1, 0, none⟩) l2).trans co, (hBa.cell (p := Af.add xi) l4).trans cx, (hBa.cell (p := ⟨Af.block, Af.off + (xi + 1), none⟩) l3).trans cy⟩
   refine hK.out _ _ (.inr hSa) ?_
   clear hK K
   simp only [Act.put, List.setIfInBounds_toArray, List.set_cons_zero, List.set_cons_succ]
   refine wpLast_ready (rs := [15]) (by kernel_rfl) (by simp) ?_
   refine eachLast_cons (at_ rfl) (fun K hK => ?_) eachLast_nil
   refine Kd.R_make_step (Kd.int .u8) (w0 := Wa) Wa.heap.size 5 (by rfl) (N := 63) rfl 22 _ _ rfl (z : Int) rfl rfl Tryz.underlying22 (.int .u8 0) 1 info5 rfl (by decide) (by omega) 0 (ok := fun _ => True) (okp := fun _ => True) rfl (fun _ hk => hk) trivial (by omega) (by omega) (Below.refl _ _) (Nat.le_refl _) ?_
   intro v63 Wb hR63 hB _ _
   simp only [Int.toNat_natCast] at hR63
   have hR58 := Kd.R_below hR58 hB
   have hBb : Below W.heap.size W Wb := hBa.trans (hB.mono hBa.size)
   have hSb : (fun w' : World => w'.cell? ⟨w4.heap.size, 0, none⟩ = some (.slice (some Af) (M + 1) c4) ∧ w'.cell? ⟨w4.heap.size + 1, 0, none⟩ = some ov ∧ w'.cell? (Af.add xi) = some (.int .i64 fx) ∧ w'.cell? ⟨Af.block, Af.off + (xi + 1), none⟩ = some (.int .i64 fy)) Wb := ⟨(hBb.cell (p := ⟨w4.heap.size, 0, none⟩) l1).trans cf, (hBb.cell (p := ⟨w4.heap.size + 1, 0, none⟩) l2).trans co, (hBb.cell (p := Af.add xi) l4).trans cx, (hBb.cell (p := ⟨Af.block, Af.off + (xi + 1), none⟩) l3).trans cy⟩
   refine hK.out _ _ (.inr hSb) ?_
   clear hK K
   simp only [Act.put, List.setIfInBounds_toArray, List.set_cons_zero, List.set_cons_succ]
   clear hB
   refine wpLast_ready (rs := [16]) (by kernel_rfl) (by simp) ?_
   refine eachLast_cons (at_ rfl) (fun K hK => ?_) eachLast_nil
   obtain ⟨A58, c58, rfl⟩ := Kd.R_slice hR58
   obtain ⟨A63, c63, rfl⟩ := Kd.R_slice hR63
   obtain ⟨y65, hy65⟩ : ∃ y : List Int, y = wordL fy ++ (ch ++ List.replicate z 0) := ⟨_, rfl⟩
   have HY65 := Aside0.mk hy65
   clear hy65
   obtain ⟨y64, hy64⟩ : ∃ y : List (List Int), y = [wordL fy, ch, List.replicate z 0] := ⟨_, rfl⟩
   have hC58 : Kd.C (Kd.int .u8) Wb A58 _ _ := (Kd.R_reads' hR58).2.2
   have hC63 : Kd.C (Kd.int .u8) Wb A63 _ _ := (Kd.R_reads' hR63).2.2
   have hCx : Kd.C (Kd.int .u8) Wb xA ch.length ch := Kd.C_below HP4.out hBb
   have htr : ∀ k, k < Wb.heap.size → (fun _ : Nat => True) k := fun _ _ => trivial
   refine Kd.N_lit_step (Kd.slice 5 (Kd.int .u8)) (w0 := Wb) Wb.heap.size 22 ?hg (N' := 64) ?hd (xs := [wordL fy, ch, List.replicate z 0]) (inner := [.slice A58 (wordL fy).length c58, .slice xA ch.length xc, .slice A63 (List.replicate z (0 : Int)).length c63]) (ok := (fun _ => True)) (okp := (fun _ => True)) ?hr ?hp (fun _ hk => hk) trivial (Below.refl _ _) (Nat.le_refl _) (by simp) ?_
   case hd => rfl
   case hg => rfl
   case hr => first | (go_simp; done) | (go_simp; rfl)
   case hp => exact Reps.one (show Kd.FK (Kd.slice 5 (Kd.int .u8)) _ _ (wordL fy) [.slice A58 (wordL fy).length c58] from Kd.FK_slice_mk (Kd.R_reads' hR58).2.1 (Kd.F_mono (Kd.C_F (Kd.heap_int .u8) hC58) htr)) (Reps.one (show Kd.FK (Kd.slice 5 (Kd.int .u8)) _ _ ch [.slice xA ch.length xc] from Kd.FK_slice_mk hp2 (Kd.F_mono (Kd.C_F (Kd.heap_int .u8) hCx) htr)) (Reps.one (show Kd.FK (Kd.slice 5 (Kd.int .u8)) _ _ (List.replicate z (0 : Int)) [.slice A63 (List.replicate z (0 : Int)).length c63] from Kd.FK_slice_mk (Kd.R_reads' hR63).2.1 (Kd.F_mono (Kd.C_F (Kd.heap_int .u8) hC63) htr)) (Reps.none _ _)))
   intro v64 Wc hN64 hB _ _
   rw [← hy64] at hN64
   obtain ⟨A64, c64, rfl⟩ := Kd.N_slice hN64
   have hBc : Below W.heap.size W Wc := hBb.trans (hB.mono hBb.size)
   have hSc : (fun w' : World => w'.cell? ⟨w4.heap.size, 0, none⟩ = some (.slice (some Af) (M + 1) c4) ∧ w'.cell? ⟨w4.heap.size + 1, 0, none⟩ = some ov ∧ w'.cell? (Af.add xi) = some (.int .i64 fx) ∧ w'.cell? ⟨Af.block, Af.off + (xi + 1), none⟩ = some (.int .i64 fy)) Wc := ⟨(hBc.cell (p := ⟨w4.heap.size, 0, none⟩) l1).trans cf, (hBc.cell (p := ⟨w4.heap.size + 1, 0, none⟩) l2).trans co, (hBc.cell (p := Af.add xi) l4).trans cx, (hBc.cell (p := ⟨Af.block, Af.off + (xi + 1), none⟩) l3).trans cy⟩
   refine hK.out _ _ (.inr hSc) ?_
   clear hK K
   simp only [Act.put, List.setIfInBounds_toArray, List.set_cons_zero, List.set_cons_succ]
   have HY := Aside0.mk hy64
   clear hy64 hC58 hC63 hCx hR58 hR63 htr hB
   refine wpLast_ready (rs := [17]) (by kernel_rfl) (by simp) ?_
   refine eachLast_cons (at_ rfl) (fun K hK => ?_) eachLast_nil
   refine goes_ Tryz.func63 (by kernel_rfl) rfl #[.slice A64 y64.length c64] (by rfl) rfl rfl (by (try simp only [List.map_toArray, List.map_cons, List.map_nil]); first | done | rfl) ?_
   refine (slices_Concat_byte_byte.calls _ _ y64 y65 _ (Kd.N_reads' hN64).2.2 (Kd.N_reads' hN64).2.1 ?hcf).mono ?_
   case hcf => rw [HY.out, HY65.out]; simp [slices_Concat_byte_byte.f, wordL]; omega
   rintro e We ⟨v65, rfl, hR65, hB⟩
   refine ⟨_, rfl, ?_⟩
   have hBe : Below W.heap.size W We := hBc.trans (hB.mono hBc.size)
   have hSe : (fun w' : World => w'.cell? ⟨w4.heap.size, 0, none⟩ = some (.slice (some Af) (M + 1) c4) ∧ w'.cell? ⟨w4.heap.size + 1, 0, none⟩ = some ov ∧ w'.cell? (Af.add xi) = some (.int .i64 fx) ∧ w'.cell? ⟨Af.block, Af.off + (xi + 1), none⟩ = some (.int .i64 fy)) We := ⟨(hBe.cell (p := ⟨w4.heap.size, 0, none⟩) l1).trans cf, (hBe.cell (p := ⟨w4.heap.size + 1, 0, none⟩) l2).trans co, (hBe.cell (p := Af.add xi) l4).trans cx, (hBe.cell (p := ⟨Af.block, Af.off + (xi + 1), none⟩) l3).trans cy⟩
   refine hK.out _ _ (.inr hSe) ?_
   clear hK K
   simp only [Act.put, List.setIfInBounds_toArray, List.set_cons_zero, List.set_cons_succ]
   obtain ⟨A65, c65, rfl⟩ := Kd.R_slice hR65
   refine wpLast_take (i := 18) (v := ?_) (at_ rfl) (by kernel_rfl) (by kernel_rfl) (by kernel_rfl) (by kernel_rfl) (fun _ _ _ h => h) (Or.inl ⟨by rfl, ?_⟩) hSe ?_
   rotate_left 1
   ·intro wq hSw
    go_simp
    all_goals with_reducible rfl
   simp only [Act.put, List.setIfInBounds_toArray, List.set_cons_zero, List.set_cons_succ]
   refine wpLast_ready (rs := [19]) (by kernel_rfl) (by simp) ?_
   refine eachLast_cons (at_ rfl) (fun K hK => ?_) eachLast_nil
   go_simp
   have hSf : (fun w' : World => w'.cell? ⟨w4.heap.size, 0, none⟩ = some (.slice (some Af) (M + 1) c4) ∧ w'.cell? ⟨w4.heap.size + 1, 0, none⟩ = some ov ∧ w'.cell? (Af.add xi) = some (.int .i64 fx) ∧ w'.cell? ⟨Af.block, Af.off + (xi + 1), none⟩ = some (.int .i64 fy)) (We.alloc (.cells #[.int .i64 fx, .slice A65 y65.length c65] 42)) := ⟨(World.cell?_alloc_lt _ _ _ (World.block_lt_of_cell? _ _ hSe.1)).trans hSe.1, (World.cell?_alloc_lt _ _ _ (World.block_lt_of_cell? _ _ hSe.2.1)).trans hSe.2.1, (World.cell?_alloc_lt _ _ _ (World.block_lt_of_cell? _ _ hSe.2.2.1)).trans hSe.2.2.1, (World.cell?_alloc_lt _ _ _ (World.block_lt_of_cell? _ _ hSe.2.2.2)).trans hSe.2.2.2⟩
   refine hK.out _ _ (.inr hSf) ?_
   clear hK K
   refine wpLast_ready (rs := [20]) (by kernel_rfl) (by simp) ?_
   refine eachLast_cons (at_ rfl) (fun K hK => ?_) eachLast_nil
   have hRo : Kd.R k42 42 We w.heap.size (fun _ => True) ov (writesL (fr.take M ++ [0]) (recsB l) xi) := Kd.R_below ho2 hBe
   have hty := Kd.R_typed hRo
   have hl65 : y65.length = 64 := by rw [HY65.out]; simp [wordL]; omega
   have hRp : Kd.R (Kd.int .u8) 5 We w.heap.size (fun k_ => some k_ ≠ ov.ownBlock) (.slice A65 y65.length c65) y65 := Kd.R_lower (Kd.R_mono (Kd.R_new' (W := Wc) (u := ov) hR65 (fun k hk => Nat.lt_of_lt_of_le (Kd.R_lt ho2 k hk) hBc.size)) (fun _ hk => hk.2)) (Nat.le_trans HI.out.hB.size hBc.size)
   refine Kd.R_append_step k42 (w0 := We) w.heap.size (by rfl) (.tmp 48) (.tmp 67) 25 42 (.agg #[.int .i64 0, .slice none 0 0]) 32 rfl Tryz.underlying25 (by kernel_rfl) rfl (by decide) (by decide) ov (writesL (fr.take M ++ [0]) (recsB l) xi) ⟨fx, y65⟩ [.int .i64 fx, .slice A65 y65.length c65] (fun _ => True) (fun k_ => some k_ ≠ ov.ownBlock) rfl rfl (k42_mkM _ _ _ _ hRp) (fun k_ hk => ⟨trivial, hk⟩) (fun _ _ => trivial) hRo (Below.refl _ _) ?hbs ?hls ?_
   case hbs => exact Nat.le_trans HI.out.hB.size hBe.size
   case hls => rw [writesL_len]; omega
   intro v68 Wf hR68 hB68 hg68 _
   obtain ⟨A68, c68, rfl⟩ := Kd.R_slice hR68
   have hfar : ∀ (k : Nat) (cells : Array Value) (t : TypeId) (zz : Nat × Nat), W.heap[k]? = some (.cells cells t zz) → t ≠ 42 → Wf.heap[k]? = some (.cells cells t zz) := by
    intro k cells t zz hk ht
    have h1 : We.heap[k]? = some (.cells cells t zz) := (hBe.block k (blk_lt hk)).trans hk
    refine (hg68.block k (blk_lt h1) (fun e => ?_)).trans h1
    obtain ⟨cs2, hc2⟩ := hty k e.symm
    rw [h1] at hc2
    cases hc2
    exact ht rfl
   have kf := hfar _ _ _ _ HI.out.hf (by decide)
   have ko := hfar _ _ _ _ ho1 (by decide)
   obtain ⟨xq, hxq⟩ := HI.out.hq
   have kq := hfar _ _ _ _ hxq (by decide)
   obtain ⟨csA, hcA⟩ := Kd.R_typed HI.out.hF Af.block (by simp [Value.ownBlock])
   have kA := hfar _ _ _ _ hcA (by decide)
   have eA : ∀ q, (Af.add q).block = Af.block := fun q => by unfold Addr.add; split <;> rfl
   have hSg : (fun w' : World => w'.cell? ⟨w4.heap.size, 0, none⟩ = some (.slice (some Af) (M + 1) c4) ∧ w'.cell? ⟨w4.heap.size + 1, 0, none⟩ = some ov ∧ w'.cell? (Af.add xi) = some (.int .i64 fx) ∧ w'.cell? ⟨Af.block, Af.off + (xi + 1), none⟩ = some (.int .i64 fy)) Wf := ⟨(World.cell?_of_block (kf.trans HI.out.hf.symm)).trans cf, (World.cell?_of_block (ko.trans ho1.symm)).trans co, (World.cell?_of_block (by rw [eA]; exact kA.trans hcA.symm)).trans cx, (World.cell?_of_block (a := ⟨Af.block, Af.off + (xi + 1), none⟩) (kA.trans hcA.symm)).trans cy⟩
   have HKF := Aside0.mk hfar
   clear hfar
   refine hK.out _ _ (.inr hSg) ?_
   clear hK K
   simp only [Act.put, List.setIfInBounds_toArray, List.set_cons_zero, List.set_cons_succ]
   refine wpLast_ready (rs := [21]) (by kernel_rfl) (by simp) ?_
   refine eachLast_cons (at_ rfl) (fun K hK => ?_) eachLast_nil
   have c21 := blk_cell ko 0
   simp at c21
   have f21 := blk_frozen ko 0
   go_simp
   refine hK.out _ _ (.inl rfl) ?_
   clear hK K
   refine wpLast_done (by kernel_rfl) ?_ _
   have hne1 : w4.heap.size ≠ w4.heap.size + 1 := by omega
   have hne2 : w6.heap.size ≠ w4.heap.size + 1 := by have h2 := Z6.out; omega
   have hwbo : w.heap.size ≤ w4.heap.size + 1 := by have h1 := HB4.out.size; omega
   have hlen : (pre ++ [(⟨xi, xA, ch.length, xc⟩ : Pc)]).length = xi + 1 := by have h2 := HK.out; simp; omega
   have hput : putAt (fr.take M ++ [0]) (recsB l) xi = ⟨fx, y65⟩ := by
    have hzn : 62 - ch.length = z := by omega
    unfold putAt
    rw [← HFX.out, ← HFY.out, ← HCH.out, hzn, ← HY65.out]
   refine ⟨rfl, ?_, ?_, ?_⟩
   ·refine (KeepsOthers.trans ⟨hBe.size, fun k o hk _ => (hBe.block k (Array.getElem?_eq_some_iff.1 hk).1).trans hk⟩ (KeepsOthers.of_grownBy hg68 (fun j o hj ho => ?_))).trans (KeepsOthers.setCell _ _ _)
    obtain ⟨cs2, hc2⟩ := hty j hj
    rw [hc2] at ho
    cases ho
    rfl
   ·exact (Below.heap_setCell _ _ _ _ hne2).trans (kq.trans hxq.symm)
   ·rw [hlen, writesL_succ, hput]
    exact ⟨(HI.out.hB.trans ((hBe.mono HI.out.hB.size).trans hB68)).setCell hwbo _, (Below.heap_setCell _ _ _ _ hne1).trans kf, Kd.R_set (Kd.R_over' (Kd.R_below HI.out.hF hBe) hty (by decide) hg68) ko (by decide) 0 _, Kd.R_set (Kd.R_over' (Kd.R_below HI.out.hb hBe) hty (by decide) hg68) ko (by decide) 0 _, ⟨_, by have h2 := blk_set ko 0 (.slice A68 (writesL (fr.take M ++ [0]) (recsB l) xi ++ [(⟨fx, y65⟩ : S42)]).length c68); simpa using h2, Kd.R_set hR68 ko (by decide) 0 _⟩, ⟨xq, (Below.heap_setCell _ _ _ _ hne2).trans kq⟩⟩
  ·refine Kd.R_make_step (Kd.int .u8) (w0 := Wd) Wd.heap.size 5 (by rfl) (N := 63) rfl 22 _ _ rfl (z : Int) rfl rfl Tryz.underlying22 (.int .u8 0) 1 info5 rfl (by decide) (by omega) 0 (ok := fun _ => True) (okp := fun _ => True) rfl (fun _ hk => hk) trivial (by omega) (by omega) (Below.refl _ _) (Nat.le_refl _) ?_
   intro v63 Wa hR63 hB _ _
   simp only [Int.toNat_natCast] at hR63
   rw [zd] at hB
   have hBa : Below W.heap.size W Wa := hBd.trans hB
   have hSa : (fun w' : World => w'.cell? ⟨w4.heap.size, 0, none⟩ = some (.slice (some Af) (M + 1) c4) ∧ w'.cell? ⟨w4.heap.size + 1, 0, none⟩ = some ov ∧ w'.cell? (Af.add xi) = some (.int .i64 fx) ∧ w'.cell? ⟨Af.block, Af.off + (xi + 1), none⟩ = some (.int .i64 fy)) Wa := ⟨(hBa.cell (p := ⟨w4.heap.size, 0, none⟩) l1).trans cf, (hBa.cell (p := ⟨w4.heap.size + 1, 0, none⟩) l2).trans co, (hBa.cell (p := Af.add xi) l4).trans cx, (hBa.cell (p := ⟨Af.block, Af.off + (xi + 1), none⟩) l3).trans cy⟩
   refine hK.out _ _ (.inr hSa) ?_
   clear hK K
   simp only [Act.put, List.setIfInBounds_toArray, List.set_cons_zero, List.set_cons_succ]
   refine wpLast_ready (rs := [10]) (by kernel_rfl) (by simp) ?_
   refine eachLast_cons (at_ rfl) (fun K hK => ?_) eachLast_nil
   refine goes_ Tryz.func64 (by kernel_rfl) rfl #[.int .i64 fy] (by rfl) rfl rfl (by (try simp only [List.map_toArray, List.map_cons, List.map_nil]); first | done | rfl) ?_
   with_reducible refine (disk_word.calls fy (wordL fy) _ HWF.out).mono ?_
   rintro e Wb ⟨v58, rfl, hR58, hB⟩
   refine ⟨_, rfl, ?_⟩
   have hR63 := Kd.R_below hR63 hB
   have hBb : Below W.heap.size W Wb := hBa.trans (hB.mono hBa.size)
   have hSb : (fun w' : World => w'.cell? ⟨w4.heap.size, 0, none⟩ = some (.slice (some Af) (M + 1) c4) ∧ w'.cell? ⟨w4.heap.size + 1, 0, none⟩ = some ov ∧ w'.cell? (Af.add xi) = some (.int .i64 fx) ∧ w'.cell? ⟨Af.block, Af.off + (xi + 1), none⟩ = some (.int .i64 fy)) Wb := ⟨(hBb.cell (p := ⟨w4.heap.size, 0, none⟩) l1).trans cf, (hBb.cell (p := ⟨w4.heap.size + 1, 0, none⟩) l2).trans co, (hBb.cell (p := Af.add xi) l4).trans cx, (hBb.cell (p := ⟨Af.block, Af.off + (xi + 1), none⟩) l3).trans cy⟩
   refine hK.out _ _ (.inr hSb) ?_
   clear hK K
   simp only [Act.put, List.setIfInBounds_toArray, List.set_cons_zero, List.set_cons_succ]
   clear hB
   refine wpLast_ready (rs := [16]) (by kernel_rfl) (by simp) ?_
   refine eachLast_cons (at_ rfl) (fun K hK => ?_) eachLast_nil
   obtain ⟨A58, c58, rfl⟩ := Kd.R_slice hR58
   obtain ⟨A63, c63, rfl⟩ := Kd.R_slice hR63
   obtain ⟨y65, hy65⟩ : ∃ y : List Int, y = wordL fy ++ (ch ++ List.replicate z 0) := ⟨_, rfl⟩
   have HY65 := Aside0.mk hy65
   clear hy65
   obtain ⟨y64, hy64⟩ : ∃ y : List (List Int), y = [wordL fy, ch, List.replicate z 0] := ⟨_, rfl⟩
   have hC58 : Kd.C (Kd.int .u8) Wb A58 _ _ := (Kd.R_reads' hR58).2.2
   have hC63 : Kd.C (Kd.int .u8) Wb A63 _ _ := (Kd.R_reads' hR63).2.2
   have hCx : Kd.C (Kd.int .u8) Wb xA ch.length ch := Kd.C_below HP4.out hBb
   have htr : ∀ k, k < Wb.heap.size → (fun _ : Nat => True) k := fun _ _ => trivial
   refine Kd.N_lit_step (Kd.slice 5 (Kd.int .u8)) (w0 := Wb) Wb.heap.size 22 ?hg (N' := 64) ?hd (xs := [wordL fy, ch, List.replicate z 0]) (inner := [.slice A58 (wordL fy).length c58, .slice xA ch.length xc, .slice A63 (List.replicate z (0 : Int)).length c63]) (ok := (fun _ => True)) (okp := (fun _ => True)) ?hr ?hp (fun _ hk => hk) trivial (Below.refl _ _) (Nat.le_refl _) (by simp) ?_
   case hd => rfl
   case hg => rfl
   case hr => first | (go_simp; done) | (go_simp; rfl)
   case hp => exact Reps.one (show Kd.FK (Kd.slice 5 (Kd.int .u8)) _ _ (wordL fy) [.slice A58 (wordL fy).length c58] from Kd.FK_slice_mk (Kd.R_reads' hR58).2.1 (Kd.F_mono (Kd.C_F (Kd.heap_int .u8) hC58) htr)) (Reps.one (show Kd.FK (Kd.slice 5 (Kd.int .u8)) _ _ ch [.slice xA ch.length xc] from Kd.FK_slice_mk hp2 (Kd.F_mono (Kd.C_F (Kd.heap_int .u8) hCx) htr)) (Reps.one (show Kd.FK (Kd.slice 5 (Kd.int .u8)) _ _ (List.replicate z (0 : Int)) [.slice A63 (List.replicate z (0 : Int)).length c63] from Kd.FK_slice_mk (Kd.R_reads' hR63).2.1 (Kd.F_mono (Kd.C_F (Kd.heap_int .u8) hC63) htr)) (Reps.none _ _)))
   intro v64 Wc hN64 hB _ _
   rw [← hy64] at hN64
   obtain ⟨A64, c64, rfl⟩ := Kd.N_slice hN64
   have hBc : Below W.heap.size W Wc := hBb.trans (hB.mono hBb.size)
   have hSc : (fun w' : World => w'.cell? ⟨w4.heap.size, 0, none⟩ = some (.slice (some Af) (M + 1) c4) ∧ w'.cell? ⟨w4.heap.size + 1, 0, none⟩ = some ov ∧ w'.cell? (Af.add xi) = some (.int .i64 fx) ∧ w'.cell? ⟨Af.block, Af.off + (xi + 1), none⟩ = some (.int .i64 fy)) Wc := ⟨(hBc.cell (p := ⟨w4.heap.size, 0, none⟩) l1).trans cf, (hBc.cell (p := ⟨w4.heap.size + 1, 0, none⟩) l2).trans co, (hBc.cell (p := Af.add xi) l4).trans cx, (hBc.cell (p := ⟨Af.block, Af.off + (xi + 1), none⟩) l3).trans cy⟩
   refine hK.out _ _ (.inr hSc) ?_
   clear hK K
   simp only [Act.put, List.setIfInBounds_toArray, List.set_cons_zero, List.set_cons_succ]
   have HY := Aside0.mk hy64
   clear hy64 hC58 hC63 hCx hR58 hR63 htr hB
   refine wpLast_ready (rs := [17]) (by kernel_rfl) (by simp) ?_
   refine eachLast_cons (at_ rfl) (fun K hK => ?_) eachLast_nil
   refine goes_ Tryz.func63 (by kernel_rfl) rfl #[.slice A64 y64.length c64] (by rfl) rfl rfl (by (try simp only [List.map_toArray, List.map_cons, List.map_nil]); first | done | rfl) ?_
   refine (slices_Concat_byte_byte.calls _ _ y64 y65 _ (Kd.N_reads' hN64).2.2 (Kd.N_reads' hN64).2.1 ?hcf).mono ?_
   case hcf => rw [HY.out, HY65.out]; simp [slices_Concat_byte_byte.f, wordL]; omega
   rintro e We ⟨v65, rfl, hR65, hB⟩
   refine ⟨_, rfl, ?_⟩
   have hBe : Below W.heap.size W We := hBc.trans (hB.mono hBc.size)
   have hSe : (fun w' : World => w'.cell? ⟨w4.heap.size, 0, none⟩ = some (.slice (some Af) (M + 1) c4) ∧ w'.cell? ⟨w4.heap.size + 1, 0, none⟩ = some ov ∧ w'.cell? (Af.add xi) = some (.int .i64 fx) ∧ w'.cell? ⟨Af.block, Af.off + (xi + 1), none⟩ = some (.int .i64 fy)) We := ⟨(hBe.cell (p := ⟨w4.heap.size, 0, none⟩) l1).trans cf, (hBe.cell (p := ⟨w4.heap.size + 1, 0, none⟩) l2).trans co, (hBe.cell (p := Af.add xi) l4).trans cx, (hBe.cell (p := ⟨Af.block, Af.off + (xi + 1), none⟩) l3).trans cy⟩
   refine hK.out _ _ (.inr hSe) ?_
   clear hK K
   simp only [Act.put, List.setIfInBounds_toArray, List.set_cons_zero, List.set_cons_succ]
   obtain ⟨A65, c65, rfl⟩ := Kd.R_slice hR65
   refine wpLast_take (i := 18) (v := ?_) (at_ rfl) (by kernel_rfl) (by kernel_rfl) (by kernel_rfl) (by kernel_rfl) (fun _ _ _ h => h) (Or.inl ⟨by rfl, ?_⟩) hSe ?_
   rotate_left 1
   ·intro wq hSw
    go_simp
    all_goals with_reducible rfl
   simp only [Act.put, List.setIfInBounds_toArray, List.set_cons_zero, List.set_cons_succ]
   refine wpLast_ready (rs := [19]) (by kernel_rfl) (by simp) ?_
   refine eachLast_cons (at_ rfl) (fun K hK => ?_) eachLast_nil
   go_simp
   have hSf : (fun w' : World => w'.cell? ⟨w4.heap.size, 0, none⟩ = some (.slice (some Af) (M + 1) c4) ∧ w'.cell? ⟨w4.heap.size + 1, 0, none⟩ = some ov ∧ w'.cell? (Af.add xi) = some (.int .i64 fx) ∧ w'.cell? ⟨Af.block, Af.off + (xi + 1), none⟩ = some (.int .i64 fy)) (We.alloc (.cells #[.int .i64 fx, .slice A65 y65.length c65] 42)) := ⟨(World.cell?_alloc_lt _ _ _ (World.block_lt_of_cell? _ _ hSe.1)).trans hSe.1, (World.cell?_alloc_lt _ _ _ (World.block_lt_of_cell? _ _ hSe.2.1)).trans hSe.2.1, (World.cell?_alloc_lt _ _ _ (World.block_lt_of_cell? _ _ hSe.2.2.1)).trans hSe.2.2.1, (World.cell?_alloc_lt _ _ _ (World.block_lt_of_cell? _ _ hSe.2.2.2)).trans hSe.2.2.2⟩
   refine hK.out _ _ (.inr hSf) ?_
   clear hK K
   refine wpLast_ready (rs := [20]) (by kernel_rfl) (by simp) ?_
   refine eachLast_cons (at_ rfl) (fun K hK => ?_) eachLast_nil
   have hRo : Kd.R k42 42 We w.heap.size (fun _ => True) ov (writesL (fr.take M ++ [0]) (recsB l) xi) := Kd.R_below ho2 hBe
   have hty := Kd.R_typed hRo
   have hl65 : y65.length = 64 := by rw [HY65.out]; simp [wordL]; omega
   have hRp : Kd.R (Kd.int .u8) 5 We w.heap.size (fun k_ => some k_ ≠ ov.ownBlock) (.slice A65 y65.length c65) y65 := Kd.R_lower (Kd.R_mono (Kd.R_new' (W := Wc) (u := ov) hR65 (fun k hk => Nat.lt_of_lt_of_le (Kd.R_lt ho2 k hk) hBc.size)) (fun _ hk => hk.2)) (Nat.le_trans HI.out.hB.size hBc.size)
   refine Kd.R_append_step k42 (w0 := We) w.heap.size (by rfl) (.tmp 48) (.tmp 67) 25 42 (.agg #[.int .i64 0, .slice none 0 0]) 32 rfl Tryz.underlying25 (by kernel_rfl) rfl (by decide) (by decide) ov (writesL (fr.take M ++ [0]) (recsB l) xi) ⟨fx, y65⟩ [.int .i64 fx, .slice A65 y65.length c65] (fun _ => True) (fun k_ => some k_ ≠ ov.ownBlock) rfl rfl (k42_mkM _ _ _ _ hRp) (fun k_ hk => ⟨trivial, hk⟩) (fun _ _ => trivial) hRo (Below.refl _ _) ?hbs ?hls ?_
   case hbs => exact Nat.le_trans HI.out.hB.size hBe.size
   case hls => rw [writesL_len]; omega
   intro v68 Wf hR68 hB68 hg68 _
   obtain ⟨A68, c68, rfl⟩ := Kd.R_slice hR68
   have hfar : ∀ (k : Nat) (cells : Array Value) (t : TypeId) (zz : Nat × Nat), W.heap[k]? = some (.cells cells t zz) → t ≠ 42 → Wf.heap[k]? = some (.cells cells t zz) := by
    intro k cells t zz hk ht
    have h1 : We.heap[k]? = some (.cells cells t zz) := (hBe.block k (blk_lt hk)).trans hk
    refine (hg68.block k (blk_lt h1) (fun e => ?_)).trans h1
    obtain ⟨cs2, hc2⟩ := hty k e.symm
    rw [h1] at hc2
    cases hc2
    exact ht rfl
   have kf := hfar _ _ _ _ HI.out.hf (by decide)
   have ko := hfar _ _ _ _ ho1 (by decide)
   obtain ⟨xq, hxq⟩ := HI.out.hq
   have kq := hfar _ _ _ _ hxq (by decide)
   obtain ⟨csA, hcA⟩ := Kd.R_typed HI.out.hF Af.block (by simp [Value.ownBlock])
   have kA := hfar _ _ _ _ hcA (by decide)
   have eA : ∀ q, (Af.add q).block = Af.block := fun q => by unfold Addr.add; split <;> rfl
   have hSg : (fun w' : World => w'.cell? ⟨w4.heap.size, 0, none⟩ = some (.slice (some Af) (M + 1) c4) ∧ w'.cell? ⟨w4.heap.size + 1, 0, none⟩ = some ov ∧ w'.cell? (Af.add xi) = some (.int .i64 fx) ∧ w'.cell? ⟨Af.block, Af.off + (xi + 1), none⟩ = some (.int .i64 fy)) Wf := ⟨(World.cell?_of_block (kf.trans HI.out.hf.symm)).trans cf, (World.cell?_of_block (ko.trans ho1.symm)).trans co, (World.cell?_of_block (by rw [eA]; exact kA.trans hcA.symm)).trans cx, (World.cell?_of_block (a := ⟨Af.block, Af.off + (xi + 1), none⟩) (kA.trans hcA.symm)).trans cy⟩
   have HKF := Aside0.mk hfar
   clear hfar
   refine hK.out _ _ (.inr hSg) ?_
   clear hK K
   simp only [Act.put, List.setIfInBounds_toArray, List.set_cons_zero, List.set_cons_succ]
   refine wpLast_ready (rs := [21]) (by kernel_rfl) (by simp) ?_
   refine eachLast_cons (at_ rfl) (fun K hK => ?_) eachLast_nil
   have c21 := blk_cell ko 0
   simp at c21
   have f21 := blk_frozen ko 0
   go_simp
   refine hK.out _ _ (.inl rfl) ?_
   clear hK K
   refine wpLast_done (by kernel_rfl) ?_ _
   have hne1 : w4.heap.size ≠ w4.heap.size + 1 := by omega
   have hne2 : w6.heap.size ≠ w4.heap.size + 1 := by have h2 := Z6.out; omega
   have hwbo : w.heap.size ≤ w4.heap.size + 1 := by have h1 := HB4.out.size; omega
   have hlen : (pre ++ [(⟨xi, xA, ch.length, xc⟩ : Pc)]).length = xi + 1 := by have h2 := HK.out; simp; omega
   have hput : putAt (fr.take M ++ [0]) (recsB l) xi = ⟨fx, y65⟩ := by
    have hzn : 62 - ch.length = z := by omega
    unfold putAt
    rw [← HFX.out, ← HFY.out, ← HCH.out, hzn, ← HY65.out]
   refine ⟨rfl, ?_, ?_, ?_⟩
   ·refine (KeepsOthers.trans ⟨hBe.size, fun k o hk _ => (hBe.block k (Array.getElem?_eq_some_iff.1 hk).1).trans hk⟩ (KeepsOthers.of_grownBy hg68 (fun j o hj ho => ?_))).trans (KeepsOthers.setCell _ _ _)
    obtain ⟨cs2, hc2⟩ := hty j hj
    rw [hc2] at ho
    cases ho
    rfl
   ·exact (Below.heap_setCell _ _ _ _ hne2).trans (kq.trans hxq.symm)
   ·rw [hlen, writesL_succ, hput]
    exact ⟨(HI.out.hB.trans ((hBe.mono HI.out.hB.size).trans hB68)).setCell hwbo _, (Below.heap_setCell _ _ _ _ hne1).trans kf, Kd.R_set (Kd.R_over' (Kd.R_below HI.out.hF hBe) hty (by decide) hg68) ko (by decide) 0 _, Kd.R_set (Kd.R_over' (Kd.R_below HI.out.hb hBe) hty (by decide) hg68) ko (by decide) 0 _, ⟨_, by have h2 := blk_set ko 0 (.slice A68 (writesL (fr.take M ++ [0]) (recsB l) xi ++ [(⟨fx, y65⟩ : S42)]).length c68); simpa using h2, Kd.R_set hR68 ko (by decide) 0 _⟩, ⟨xq, (Below.heap_setCell _ _ _ _ hne2).trans kq⟩⟩
 case done =>
  rintro D W hD hI hK
  have HI := Aside0.mk hI
  have HD := Aside0.mk hK
  clear hI hK
  obtain ⟨ov, ho1, ho2⟩ := HI.out.ho
  rw [pcs_len b _ _ _ _ (Nat.le_refl _), ← HMB.out] at ho2
  obtain ⟨Af, eA, hcf⟩ : ∃ Af, A4 = some Af ∧ ∀ k, k < M + 1 → W.cell? (Af.add k) = some (.int .i64 ((fr.take M ++ [0]).getD k 0)) := by
   have hrd := Kd.reads_of_C (d := (0 : Int)) (h1 := fun _ => rfl) (Kd.R_reads' HI.out.hF).2.2
   have hl : (fr.take M ++ [0]).length = M + 1 := by simp; omega
   obtain ⟨ad, e, hc⟩ := hrd.2.2 (by omega)
   exact ⟨ad, e, fun k hk => hc k (by omega)⟩
  subst eA
  have cf := blk_cell HI.out.hf 0
  have co := blk_cell ho1 0
  simp at cf co
  have cz : W.cell? Af = _ := hcf 0 (by omega)
  obtain ⟨fz, hfz⟩ : ∃ fz, fz = (fr.take M ++ [0]).getD 0 0 := ⟨_, rfl⟩
  rw [← hfz] at cz
  have HFZ := Aside0.mk hfz
  clear hfz
  have hgW : W.heap[g]? = _ := (HI.out.hB.block g hgl).trans HG.out
  have cj := blk_cell hgW 1
  have cv := blk_cell hgW 2
  simp at cj cv
  have l1 : w4.heap.size < W.heap.size := blk_lt HI.out.hf
  have l2 : w4.heap.size + 1 < W.heap.size := blk_lt ho1
  have l3 : Af.block < W.heap.size := World.block_lt_of_cell? W Af cz
  have l4 : g < W.heap.size := blk_lt hgW
  have hw1 : IntKind.i64.wrap ((1 : Int) - (j : Int)) = 1 - (j : Int) := by simp [IntKind.wrap, IntKind.bits, IntKind.signed]; omega
  have hw2 : IntKind.i64.wrap (st.ver + 1) = st.ver + 1 := by simp [IntKind.wrap, IntKind.bits, IntKind.signed]; omega
  have hi0 : (0 : Int) < (M : Int) + 1 := by omega
  obtain ⟨hb64, hhb⟩ : ∃ h : List Int, h = headB (M : Int) (b : Int) fz (st.ver + 1) ++ headB (M : Int) (b : Int) fz (st.ver + 1) := ⟨_, rfl⟩
  have HHF : Aside0 (disk_headOf.f 9 (M : Int) (b : Int) fz (st.ver + 1) = some hb64) := ⟨by rw [hhb]; exact head_f _ _ _ _⟩
  have HHB := Aside0.mk hhb
  clear hhb
  obtain ⟨S, hS0⟩ : ∃ S : World → Prop, S = (fun w' : World => w'.cell? ⟨w4.heap.size + 1, 0, none⟩ = some ov ∧ w'.cell? ⟨w4.heap.size, 0, none⟩ = some (.slice (some Af) (M + 1) c4) ∧ w'.cell? Af = some (.int .i64 fz) ∧ w'.cell? ⟨g, 1, none⟩ = some (.int .i64 (j : Int)) ∧ w'.cell? ⟨g, 2, none⟩ = some (.int .i64 st.ver)) := ⟨_, rfl⟩
  gi_wp2
  refine wpIn_wide.2 (wp_region_noPanic ?_)
  refine region_last S 24 (by kernel_rfl) ?_ (fun Wd zd hBd hS => ?_)
  ·rw [hS0]; exact ⟨co, cf, cz, cj, cv⟩
  subst hS0
  refine wpLast_take (i := 0) (v := ?_) (at_ rfl) (by kernel_rfl) (by kernel_rfl) (by kernel_rfl) (by kernel_rfl) (fun _ _ _ h => h) (Or.inl ⟨by rfl, ?_⟩) hS ?_
  rotate_left 1
  ·intro wq hSw
   obtain ⟨s1, s2, s3, s4, s5⟩ := hSw
   go_simp
   all_goals with_reducible rfl
  simp only [Act.put, List.setIfInBounds_toArray, List.set_cons_zero, List.set_cons_succ]
  refine wpLast_take (i := 1) (v := ?_) (at_ rfl) (by kernel_rfl) (by kernel_rfl) (by kernel_rfl) (by kernel_rfl) (fun _ _ _ h => h) (Or.inl ⟨by rfl, ?_⟩) hS ?_
  rotate_left 1
  ·intro wq hSw
   obtain ⟨s1, s2, s3, s4, s5⟩ := hSw
   go_simp
   all_goals with_reducible rfl
  simp only [Act.put, List.setIfInBounds_toArray, List.set_cons_zero, List.set_cons_succ]
  refine wpLast_take (i := 2) (v := ?_) (at_ rfl) (by kernel_rfl) (by kernel_rfl) (by kernel_rfl) (by kernel_rfl) (fun _ _ _ h => h) (Or.inl ⟨by rfl, ?_⟩) hS ?_
  rotate_left 1
  ·intro wq hSw
   obtain ⟨s1, s2, s3, s4, s5⟩ := hSw
   go_simp
   all_goals with_reducible rfl
  simp only [Act.put, List.setIfInBounds_toArray, List.set_cons_zero, List.set_cons_succ]
  refine wpLast_take (i := 3) (v := ?_) (at_ rfl) (by kernel_rfl) (by kernel_rfl) (by kernel_rfl) (by kernel_rfl) (fun _ _ _ h => h) (Or.inl ⟨by rfl, ?_⟩) hS ?_
  rotate_left 1
  ·intro wq hSw
   obtain ⟨s1, s2, s3, s4, s5⟩ := hSw
   go_simp
   all_goals with_reducible rfl
  simp only [Act.put, List.setIfInBounds_toArray, List.set_cons_zero, List.set_cons_succ]
  refine wpLast_take (i := 4) (v := ?_) (at_ rfl) (by kernel_rfl) (by kernel_rfl) (by kernel_rfl) (by kernel_rfl) (fun _ _ _ h => h) (Or.inl ⟨by rfl, ?_⟩) hS ?_
  rotate_left 1
  ·intro wq hSw
   obtain ⟨s1, s2, s3, s4, s5⟩ := hSw
   go_simp
   all_goals with_reducible rfl
  simp only [Act.put, List.setIfInBounds_toArray, List.set_cons_zero, List.set_cons_succ]
  refine wpLast_take (i := 5) (v := ?_) (at_ rfl) (by kernel_rfl) (by kernel_rfl) (by kernel_rfl) (by kernel_rfl) (fun _ _ _ h => h) (Or.inl ⟨by rfl, ?_⟩) hS ?_
  rotate_left 1
  ·intro wq hSw
   obtain ⟨s1, s2, s3, s4, s5⟩ := hSw
   go_simp
   all_goals with_reducible rfl
  simp only [Act.put, List.setIfInBounds_toArray, List.set_cons_zero, List.set_cons_succ]
  refine wpLast_take (i := 6) (v := ?_) (at_ rfl) (by kernel_rfl) (by kernel_rfl) (by kernel_rfl) (by kernel_rfl) (fun _ _ _ h => h) (Or.inl ⟨by rfl, ?_⟩) hS ?_
  rotate_left 1
  ·intro wq hSw
   obtain ⟨s1, s2, s3, s4, s5⟩ := hSw
   go_simp
   all_goals with_reducible rfl
  simp only [Act.put, List.setIfInBounds_toArray, List.set_cons_zero, List.set_cons_succ]
  refine wpLast_take (i := 7) (v := ?_) (at_ rfl) (by kernel_rfl) (by kernel_rfl) (by kernel_rfl) (by kernel_rfl) (fun _ _ _ h => h) (Or.inl ⟨by rfl, ?_⟩) hS ?_
  rotate_left 1
  ·intro wq hSw
   obtain ⟨s1, s2, s3, s4, s5⟩ := hSw
   go_simp
   all_goals with_reducible rfl
  simp only [Act.put, List.setIfInBounds_toArray, List.set_cons_zero, List.set_cons_succ]
  refine wpLast_take (i := 8) (v := ?_) (at_ rfl) (by kernel_rfl) (by kernel_rfl) (by kernel_rfl) (by kernel_rfl) (fun _ _ _ h => h) (Or.inl ⟨by rfl, ?_⟩) hS ?_
  rotate_left 1
  ·intro wq hSw
   obtain ⟨s1, s2, s3, s4, s5⟩ := hSw
   go_simp
   all_goals with_reducible rfl
  simp only [Act.put, List.setIfInBounds_toArray, List.set_cons_zero, List.set_cons_succ]
  refine wpLast_take (i := 9) (v := ?_) (at_ rfl) (by kernel_rfl) (by kernel_rfl) (by kernel_rfl) (by kernel_rfl) (fun _ _ _ h => h) (Or.inl ⟨by rfl, ?_⟩) hS ?_
  rotate_left 1
  ·intro wq hSw
   obtain ⟨s1, s2, s3, s4, s5⟩ := hSw
   go_simp
   all_goals with_reducible rfl
  simp only [Act.put, List.setIfInBounds_toArray, List.set_cons_zero, List.set_cons_succ]
  refine wpLast_take (i := 10) (v := ?_) (at_ rfl) (by kernel_rfl) (by kernel_rfl) (by kernel_rfl) (by kernel_rfl) (fun _ _ _ h => h) (Or.inl ⟨by rfl, ?_⟩) hS ?_
  rotate_left 1
  ·intro wq hSw
   obtain ⟨s1, s2, s3, s4, s5⟩ := hSw
   go_simp
   all_goals with_reducible rfl
  simp only [Act.put, List.setIfInBounds_toArray, List.set_cons_zero, List.set_cons_succ]
  refine wpLast_take (i := 11) (v := ?_) (at_ rfl) (by kernel_rfl) (by kernel_rfl) (by kernel_rfl) (by kernel_rfl) (fun _ _ _ h => h) (Or.inl ⟨by rfl, ?_⟩) hS ?_
  rotate_left 1
  ·intro wq hSw
   obtain ⟨s1, s2, s3, s4, s5⟩ := hSw
   go_simp
   all_goals with_reducible rfl
  simp only [Act.put, List.setIfInBounds_toArray, List.set_cons_zero, List.set_cons_succ]
  refine wpLast_take (i := 12) (v := ?_) (at_ rfl) (by kernel_rfl) (by kernel_rfl) (by kernel_rfl) (by kernel_rfl) (fun _ _ _ h => h) (Or.inl ⟨by rfl, ?_⟩) hS ?_
  rotate_left 1
  ·intro wq hSw
   obtain ⟨s1, s2, s3, s4, s5⟩ := hSw
   go_simp
   all_goals with_reducible rfl
  simp only [Act.put, List.setIfInBounds_toArray, List.set_cons_zero, List.set_cons_succ]
  refine wpLast_take (i := 13) (v := ?_) (at_ rfl) (by kernel_rfl) (by kernel_rfl) (by kernel_rfl) (by kernel_rfl) (fun _ _ _ h => h) (Or.inl ⟨by rfl, ?_⟩) hS ?_
  rotate_left 1
  ·intro wq hSw
   obtain ⟨s1, s2, s3, s4, s5⟩ := hSw
   go_simp
   all_goals with_reducible rfl
  simp only [Act.put, List.setIfInBounds_toArray, List.set_cons_zero, List.set_cons_succ]
  refine wpLast_take (i := 14) (v := ?_) (at_ rfl) (by kernel_rfl) (by kernel_rfl) (by kernel_rfl) (by kernel_rfl) (fun _ _ _ h => h) (Or.inl ⟨by rfl, ?_⟩) hS ?_
  rotate_left 1
  ·intro wq hSw
   obtain ⟨s1, s2, s3, s4, s5⟩ := hSw
   go_simp
   all_goals with_reducible rfl
  simp only [Act.put, List.setIfInBounds_toArray, List.set_cons_zero, List.set_cons_succ]
  refine wpLast_take (i := 15) (v := ?_) (at_ rfl) (by kernel_rfl) (by kernel_rfl) (by kernel_rfl) (by kernel_rfl) (fun _ _ _ h => h) (Or.inl ⟨by rfl, ?_⟩) hS ?_
  rotate_left 1
  ·intro wq hSw
   obtain ⟨s1, s2, s3, s4, s5⟩ := hSw
   go_simp
   all_goals with_reducible rfl
  simp only [Act.put, List.setIfInBounds_toArray, List.set_cons_zero, List.set_cons_succ]
  refine wpLast_take (i := 16) (v := ?_) (at_ rfl) (by kernel_rfl) (by kernel_rfl) (by kernel_rfl) (by kernel_rfl) (fun _ _ _ h => h) (Or.inl ⟨by rfl, ?_⟩) hS ?_
  rotate_left 1
  ·intro wq hSw
   obtain ⟨s1, s2, s3, s4, s5⟩ := hSw
   go_simp
   all_goals with_reducible rfl
  simp only [Act.put, List.setIfInBounds_toArray, List.set_cons_zero, List.set_cons_succ]
  refine wpLast_take (i := 17) (v := ?_) (at_ rfl) (by kernel_rfl) (by kernel_rfl) (by kernel_rfl) (by kernel_rfl) (fun _ _ _ h => h) (Or.inl ⟨by rfl, ?_⟩) hS ?_
  rotate_left 1
  ·intro wq hSw
   obtain ⟨s1, s2, s3, s4, s5⟩ := hSw
   go_simp
   all_goals with_reducible rfl
  simp only [Act.put, List.setIfInBounds_toArray, List.set_cons_zero, List.set_cons_succ]
  refine wpLast_take (i := 18) (v := ?_) (at_ rfl) (by kernel_rfl) (by kernel_rfl) (by kernel_rfl) (by kernel_rfl) (fun _ _ _ h => h) (Or.inl ⟨by rfl, ?_⟩) hS ?_
  rotate_left 1
  ·intro wq hSw
   obtain ⟨s1, s2, s3, s4, s5⟩ := hSw
   go_simp
   all_goals with_reducible rfl
  simp only [Act.put, List.setIfInBounds_toArray, List.set_cons_zero, List.set_cons_succ]
  refine wpLast_ready (rs := [19]) (by kernel_rfl) (by simp) ?_
  refine eachLast_cons (at_ rfl) (fun K hK => ?_) eachLast_nil
  refine goes_ Tryz.func43 (by kernel_rfl) rfl #[.int .i64 (M : Int), .int .i64 (b : Int), .int .i64 fz, .int .i64 (st.ver + 1)] (by rfl) rfl rfl (by (try simp only [List.map_toArray, List.map_cons, List.map_nil]); first | done | rfl) ?_
  with_reducible refine (disk_headOf.calls 9 (M : Int) (b : Int) fz (st.ver + 1) hb64 _ HHF.out).mono ?_
  rintro e We ⟨v65, rfl, hR65, hB⟩
  refine ⟨_, rfl, ?_⟩
  rw [zd] at hB hR65
  have hBe : Below W.heap.size W We := hBd.trans hB
  have hSe : (fun w' : World => w'.cell? ⟨w4.heap.size + 1, 0, none⟩ = some ov ∧ w'.cell? ⟨w4.heap.size, 0, none⟩ = some (.slice (some Af) (M + 1) c4) ∧ w'.cell? Af = some (.int .i64 fz) ∧ w'.cell? ⟨g, 1, none⟩ = some (.int .i64 (j : Int)) ∧ w'.cell? ⟨g, 2, none⟩ = some (.int .i64 st.ver)) We := ⟨(hBe.cell (p := ⟨w4.heap.size + 1, 0, none⟩) l2).trans co, (hBe.cell (p := ⟨w4.heap.size, 0, none⟩) l1).trans cf, (hBe.cell (p := Af) l3).trans cz, (hBe.cell (p := ⟨g, 1, none⟩) l4).trans cj, (hBe.cell (p := ⟨g, 2, none⟩) l4).trans cv⟩
  refine hK.out _ _ (.inr hSe) ?_
  clear hK K
  simp only [Act.put, List.setIfInBounds_toArray, List.set_cons_zero, List.set_cons_succ]
  obtain ⟨A65, c65, rfl⟩ := Kd.R_slice hR65
  refine wpLast_take (i := 20) (v := ?_) (at_ rfl) (by kernel_rfl) (by kernel_rfl) (by kernel_rfl) (by kernel_rfl) (fun _ _ _ h => h) (Or.inl ⟨by rfl, ?_⟩) hSe ?_
  rotate_left 1
  ·intro wq hSw
   obtain ⟨s1, s2, s3, s4, s5⟩ := hSw
   go_simp
   all_goals with_reducible rfl
  simp only [Act.put, List.setIfInBounds_toArray, List.set_cons_zero, List.set_cons_succ]
  refine wpLast_ready (rs := [21]) (by kernel_rfl) (by simp) ?_
  refine eachLast_cons (at_ rfl) (fun K hK => ?_) eachLast_nil
  go_simp
  have hSf : (fun w' : World => w'.cell? ⟨w4.heap.size + 1, 0, none⟩ = some ov ∧ w'.cell? ⟨w4.heap.size, 0, none⟩ = some (.slice (some Af) (M + 1) c4) ∧ w'.cell? Af = some (.int .i64 fz) ∧ w'.cell? ⟨g, 1, none⟩ = some (.int .i64 (j : Int)) ∧ w'.cell? ⟨g, 2, none⟩ = some (.int .i64 st.ver)) (We.alloc (.cells #[.int .i64 (1 - (j : Int)), .slice A65 hb64.length c65] 42)) := ⟨(World.cell?_alloc_lt _ _ _ (World.block_lt_of_cell? _ _ hSe.1)).trans hSe.1, (World.cell?_alloc_lt _ _ _ (World.block_lt_of_cell? _ _ hSe.2.1)).trans hSe.2.1, (World.cell?_alloc_lt _ _ _ (World.block_lt_of_cell? _ _ hSe.2.2.1)).trans hSe.2.2.1, (World.cell?_alloc_lt _ _ _ (World.block_lt_of_cell? _ _ hSe.2.2.2.1)).trans hSe.2.2.2.1, (World.cell?_alloc_lt _ _ _ (World.block_lt_of_cell? _ _ hSe.2.2.2.2)).trans hSe.2.2.2.2⟩
  refine hK.out _ _ (.inr hSf) ?_
  clear hK K
  refine wpLast_ready (rs := [22]) (by kernel_rfl) (by simp) ?_
  refine eachLast_cons (at_ rfl) (fun K hK => ?_) eachLast_nil
  have hRo : Kd.R k42 42 We w.heap.size (fun _ => True) ov (writesL (fr.take M ++ [0]) (recsB l) M) := Kd.R_below ho2 hBe
  have hty := Kd.R_typed hRo
  have hRp : Kd.R (Kd.int .u8) 5 We w.heap.size (fun k_ => some k_ ≠ ov.ownBlock) (.slice A65 hb64.length c65) hb64 := Kd.R_lower (Kd.R_mono (Kd.R_new' (W := W) (u := ov) hR65 (fun k hk => Kd.R_lt ho2 k hk)) (fun _ hk => hk.2)) HI.out.hB.size
  refine Kd.R_append_step k42 (w0 := We) w.heap.size (by rfl) (.tmp 69) (.tmp 90) 25 42 (.agg #[.int .i64 0, .slice none 0 0]) 32 rfl Tryz.underlying25 (by kernel_rfl) rfl (by decide) (by decide) ov (writesL (fr.take M ++ [0]) (recsB l) M) ⟨1 - (j : Int), hb64⟩ [.int .i64 (1 - (j : Int)), .slice A65 hb64.length c65] (fun _ => True) (fun k_ => some k_ ≠ ov.ownBlock) rfl rfl (k42_mkM _ _ _ _ hRp) (fun k_ hk => ⟨trivial, hk⟩) (fun _ _ => trivial) hRo (Below.refl _ _) ?hbs ?hls ?_
  case hbs => exact Nat.le_trans HI.out.hB.size hBe.size
  case hls => rw [writesL_len]; omega
  intro v68 Wf hR68 hB68 hg68 _
  have hfar : ∀ (k : Nat) (cells : Array Value) (t : TypeId) (zz : Nat × Nat), W.heap[k]? = some (.cells cells t zz) → t ≠ 42 → Wf.heap[k]? = some (.cells cells t zz) := by
   intro k cells t zz hk ht
   have h1 : We.heap[k]? = some (.cells cells t zz) := (hBe.block k (blk_lt hk)).trans hk
   refine (hg68.block k (blk_lt h1) (fun e => ?_)).trans h1
   obtain ⟨cs2, hc2⟩ := hty k e.symm
   rw [h1] at hc2
   cases hc2
   exact ht rfl
  have kf := hfar _ _ _ _ HI.out.hf (by decide)
  have ko := hfar _ _ _ _ ho1 (by decide)
  have kg := hfar _ _ _ _ hgW (by decide)
  obtain ⟨csA, hcA⟩ := Kd.R_typed HI.out.hF Af.block (by simp [Value.ownBlock])
  have kA := hfar _ _ _ _ hcA (by decide)
  have hSg : (fun w' : World => w'.cell? ⟨w4.heap.size + 1, 0, none⟩ = some ov ∧ w'.cell? ⟨w4.heap.size, 0, none⟩ = some (.slice (some Af) (M + 1) c4) ∧ w'.cell? Af = some (.int .i64 fz) ∧ w'.cell? ⟨g, 1, none⟩ = some (.int .i64 (j : Int)) ∧ w'.cell? ⟨g, 2, none⟩ = some (.int .i64 st.ver)) Wf := ⟨(World.cell?_of_block (ko.trans ho1.symm)).trans co, (World.cell?_of_block (kf.trans HI.out.hf.symm)).trans cf, (World.cell?_of_block (kA.trans hcA.symm)).trans cz, (World.cell?_of_block (a := ⟨g, 1, none⟩) (kg.trans hgW.symm)).trans cj, (World.cell?_of_block (a := ⟨g, 2, none⟩) (kg.trans hgW.symm)).trans cv⟩
  have hKD : Wf.heap[D]? = some (.deferred (some [])) := by
   have h1 : We.heap[D]? = some (.deferred (some [])) := (hBe.block D (Array.getElem?_eq_some_iff.1 HD.out).1).trans HD.out
   refine (hg68.block D (Array.getElem?_eq_some_iff.1 h1).1 (fun e => ?_)).trans h1
   obtain ⟨cs2, hc2⟩ := hty D e.symm
   rw [h1] at hc2
   cases hc2
  refine hK.out _ _ (.inr hSg) ?_
  clear hK K
  simp only [Act.put, List.setIfInBounds_toArray, List.set_cons_zero, List.set_cons_succ]
  refine wpLast_ready (rs := [23]) (by kernel_rfl) (by simp) ?_
  refine eachLast_cons (at_ rfl) (fun K hK => ?_) eachLast_nil
  go_simp
  refine hK.out _ _ (.inr hSg) ?_
  clear hK K
  refine wpLast_ready (rs := [24]) (by kernel_rfl) (by simp) ?_
  refine eachLast_cons (at_ rfl) (fun K hK => ?_) eachLast_nil
  go_simp
  refine hK.out _ _ (.inl rfl) ?_
  clear hK K
  refine wpLast_done (by kernel_rfl) (NoPanic.normal ?_) _
  have HR68 := Aside0.mk hR68
  have HKD := Aside0.mk hKD
  have HBW : Aside0 (Below w.heap.size w Wf) := ⟨HI.out.hB.trans ((hBe.mono HI.out.hB.size).trans hB68)⟩
  clear hS hSe hSf hSg hRo hRp hR65 hR68 hKD hB68 hg68 hfar kf ko kg kA hB hBd hBe hty
  gi_wp2
  refine ⟨by simp, .inl ⟨_, _, rfl, run_takeDeferred HKD.out, ?_⟩⟩
  have hr2 : ∀ r, some D = some r → ∃ o : Obj, Wf.heap[r]? = some o ∧ o.isCells = false := fun r e => by cases e; exact ⟨_, HKD.out, rfl⟩
  have hwf : writesF j st.ver (freeL st.used 2 (nb - 2)) (recsB l) = writesL (fr.take M ++ [0]) (recsB l) M ++ [⟨1 - (j : Int), hb64⟩] := by
   unfold writesF
   rw [HFR.out, ← HBL.out, ← HMB.out, ← HFZ.out, ← HHB.out]
  have hDw : w.heap.size ≤ D := by have h1 := HB4.out.size; have h2 := Z6.out; simp at hD; omega
  refine ⟨.tuple #[v68, .int .i64 0], by simp [results, Tryz.results48, go_sem], v68, rfl, ?_, ?_⟩
  ·rw [hwf]
   exact R_other HR68.out (grownBy_putObj' _ _ _) hr2
  ·exact HBW.out.grown (grownBy_putObj' _ _ _) HBW.out.size (fun k e => by cases e; omega)
open Go Go.RowKit Go.Proofs.YtcdpkdehogcjnaaGreatW.PrintWords Go.Proofs.YtcdpkdehogcjnaaGreatW.PrintLast Go.Proofs.YtcdpkdehogcjnaaGreatW.PrintMore
theorem chain_len (d : List Int) (nb : Nat) : ∀ (m a : Nat) (used : List Nat) (all : List Int) (u : List Nat) (al : List Int), chainF d nb m a used all = some (u, al) → u.length = used.length + m
 | 0, a, used, all, u, al, h => by
  unfold chainF at h
  split at h
  ·cases h; rfl
  ·cases h
 | m + 1, a, used, all, u, al, h => by
  unfold chainF at h
  split at h
  ·have := chain_len d nb m _ _ _ _ _ h
   simp at this
   omega
  ·cases h
theorem head_facts {xs : List Int} {nb i : Nat} {st : HSt} (h : headF xs nb i = some st) : 1 ≤ st.ver ∧ st.ver ≤ 1099511627776 ∧ st.used.length ≤ (nb - 2) / 2 := by
 unfold headF at h
 simp only at h
 split at h
 ·rename_i ho
  obtain ⟨_, _, h1, h2, h3, _, _⟩ := ho
  unfold headG at h
  split at h
  ·cases h
  ·rename_i used all hc
   have hl := chain_len _ _ _ _ _ _ _ _ hc
   split at h
   ·rw [Option.map_eq_some_iff] at h
    obtain ⟨rs, _, rfl⟩ := h
    refine ⟨?_, ?_, ?_⟩
    ·show (1 : Int) ≤ ((_ : Nat) : Int)
     omega
    ·show ((_ : Nat) : Int) ≤ _
     omega
    ·show used.length ≤ _
     simp at hl
     omega
   ·cases h
 ·cases h
theorem best_head {xs : List Int} {nb : Nat} : ∀ {k j : Nat} {st : HSt}, bestK xs nb k = some (j, st) → j < k ∧ headF xs nb j = some st
 | 0, j, st, h => by cases h
 | k + 1, j, st, h => by
  unfold bestK at h
  split at h
  ·obtain ⟨h1, h2⟩ := best_head h
   exact ⟨by omega, h2⟩
  ·rename_i s hs
   split at h
   ·cases h
    exact ⟨by omega, hs⟩
   ·rename_i j' t ht
    split at h
    ·cases h
     exact ⟨by omega, hs⟩
    ·cases h
     obtain ⟨h1, h2⟩ := best_head ht
     exact ⟨by omega, h2⟩
theorem disk_facts {xs : List Int} {j : Nat} {st : HSt} (h : diskF xs = some (j, st)) :
  xs.length = xs.length / 64 * 64 ∧ 8 ≤ xs.length / 64 ∧ xs.length / 64 ≤ 256 ∧ j ≤ 1 ∧ headF xs (xs.length / 64) j = some st ∧ 1 ≤ st.ver ∧ st.ver ≤ 1099511627776 ∧ st.used.length ≤ (xs.length / 64 - 2) / 2 := by
 unfold diskF at h
 split at h
 ·rename_i hs
  unfold sizeOk at hs
  simp at hs
  obtain ⟨⟨h1, h2⟩, h3⟩ := hs
  obtain ⟨h4, h5⟩ := best_head h
  exact ⟨by omega, h2, h3, by omega, h5, head_facts h5⟩
 ·cases h
def cntF (u : List Nat) (i : Nat) : Nat := (u.filter (fun x => decide (i ≤ x))).length
theorem cnt_le (u : List Nat) (i : Nat) : cntF u (i + 1) ≤ cntF u i := by
 unfold cntF
 induction u with
 | nil => simp
 | cons a u ih =>
  simp only [List.filter_cons]
  by_cases h : i + 1 ≤ a
  ·rw [if_pos (by simpa using h), if_pos (by simp; omega)]
   simp only [List.length_cons]
   omega
  ·rw [if_neg (by simpa using h)]
   split
   ·simp only [List.length_cons]; omega
   ·exact ih
theorem cnt_lt (u : List Nat) (i : Nat) (hm : u.contains i = true) : cntF u (i + 1) + 1 ≤ cntF u i := by
 unfold cntF
 induction u with
 | nil => simp at hm
 | cons a u ih =>
  simp only [List.filter_cons]
  by_cases h : i + 1 ≤ a
  ·have h2 : u.contains i = true := by
    simp only [List.contains_cons, Bool.or_eq_true, beq_iff_eq] at hm
    rcases hm with hm | hm
    ·omega
    ·exact hm
   have := ih h2
   rw [if_pos (by simpa using h), if_pos (by simp; omega)]
   simp only [List.length_cons]
   omega
  ·rw [if_neg (by simpa using h)]
   by_cases he : i = a
   ·subst he
    rw [if_pos (by simp)]
    have := cnt_le u i
    unfold cntF at this
    simp only [List.length_cons]
    omega
   ·have h2 : u.contains i = true := by
     simp only [List.contains_cons, Bool.or_eq_true, beq_iff_eq] at hm
     rcases hm with hm | hm
     ·omega
     ·exact hm
    have := ih h2
    split
    ·simp only [List.length_cons]; omega
    ·exact this
theorem free_cnt (u : List Nat) : ∀ (k i : Nat), k ≤ (freeL u i k).length + cntF u i
 | 0, i => Nat.zero_le _
 | k + 1, i => by
  have ih := free_cnt u k (i + 1)
  unfold freeL
  split
  ·rename_i h
   have := cnt_lt u i h
   omega
  ·have := cnt_le u i
   simp only [List.length_cons]
   omega
theorem free_many (u : List Nat) (k i : Nat) : k ≤ (freeL u i k).length + u.length := by
 have h1 := free_cnt u k i
 have h2 : cntF u i ≤ u.length := List.length_filter_le _ _
 omega
theorem free_room {u : List Nat} {nb b : Nat} (h8 : 8 ≤ nb) (hu : u.length ≤ (nb - 2) / 2) (hb : b ≤ roomN nb) : (b + 61) / 62 ≤ (freeL u 2 (nb - 2)).length := by
 have h1 := free_many u (nb - 2) 2
 unfold roomN at hb
 omega
/-- what a change makes of a state and records -/
def changeR (xs : List Int) (j : Nat) (st : HSt) (l : List S40) : List S42 × Int :=
 if writesOk (xs.length / 64) st.ver (recsB l) then (writesF j st.ver (freeL st.used 2 (xs.length / 64 - 2)) (recsB l), 0) else ([], 2)
def writeR (xs : List Int) (l : List S40) : List S42 × Int :=
 match diskF xs with
 | none => ([], 200)
 | some (j, st) => if askedF l = 0 then changeR xs j st l else ([], askedF l)
def disk_Write.f (l0 : List Int) (l1 : List S40) : Option (List S42 × Int) := if IsBytes l0 ∧ (recsB l1).length ≤ 70368744177664 then some (writeR l0 l1) else none
theorem asked_vals : ∀ (l : List S40) (o : Option Int), askedR o l = 0 ∨ askedR o l = 1
 | [], o => by rw [askedR_nil]; exact .inl rfl
 | r :: l, o => by
  rw [askedR_cons]
  have ih := fun o => asked_vals l o
  split
  ·exact .inr rfl
  split
  ·exact .inr rfl
  split
  ·exact .inr rfl
  cases o with
  | none => exact ih _
  | some n =>
   simp only
   split
   ·exact .inr rfl
   ·exact ih _
theorem write1_any (A : Option Addr) (n c b : Nat) (v : Value) (w : World) (h : w.cell? ⟨b, 0, none⟩ = some (.slice A n c)) :
  Calls Tryz.prog 25 #[v, .pointer (some ⟨b, 0, none⟩)] w fun e w' => e = .returned (.slice A n c) ∧ w' = w := by
 go_enter Tryz.func25, Tryz.ntmps25
 go_wp2_with fail
 go_returns
 exact ⟨rfl, rfl⟩
set_option maxHeartbeats 2000000 in
theorem change_w (A0 : Option Addr) (c0 : Nat) (l0 : List Int) (A1 : Option Addr) (c1 : Nat) (l1 : List S40) (b : Nat) (w : World) (hr0 : Kd.C (Kd.int .u8) w A0 l0.length l0) (hc0 : l0.length ≤ c0) (hbt : IsBytes l0)
  (hr1 : Kd.C k40 w A1 l1.length l1) (hc1 : l1.length ≤ c1) (hbx : w.cell? ⟨b, 0, none⟩ = some (.slice A1 l1.length c1)) (hrb : (recsB l1).length ≤ 70368744177664) :
  Calls Tryz.prog 24 #[.slice A0 l0.length c0, .slice A1 l1.length c1, .func (.func 25) #[] #[.pointer (some ⟨b, 0, none⟩)]] w fun e w' =>
   ∃ v, e = .returned (.tuple #[v, .int .i64 (writeR l0 l1).2]) ∧ Kd.R k42 42 w' w.heap.size (fun _ => True) v (writeR l0 l1).1 ∧ Below w.heap.size w w' := by
 have HR0 := Aside0.mk hr0
 have HR1 := Aside0.mk hr1
 have HBT := Aside0.mk hbt
 have HAF := Aside0.mk (asked_f l1 (Kd.C_max hr1))
 have hbl : b < w.heap.size := World.block_lt_of_cell? w ⟨b, 0, none⟩ hbx
 have HBX := Aside0.mk hbx
 clear hr0 hr1 hbt hbx
 go_enter Tryz.func24, Tryz.ntmps24
 go_wp2_with fail
 refine (open_all A0 _ c0 l0 w HR0.out hc0 HBT.out).mono ?_
 rintro e w1 ⟨hb, v, rfl, hbest⟩
 have HW := Aside0.mk hb
 clear hb
 obtain ⟨o, ho⟩ : ∃ o, o = diskF l0 := ⟨_, rfl⟩
 rw [← ho] at hbest ⊢
 have HO := Aside0.mk ho
 clear ho
 cases o with
 | none =>
  obtain rfl : v = .pointer none := hbest
  simp only [Option.isSome_none, Bool.false_eq_true, if_false]
  go_wp2_with fail
  go_returns
  exact ⟨.slice none 0 0, by simp [writeR, ← HO.out], by simp only [writeR, ← HO.out]; exact Kd.R_nil _ _ _ _ _, HW.out⟩
 | some q =>
  obtain ⟨j, st⟩ := q
  obtain ⟨g, mb, vr, rfl, hg, hgB, hgm, hS⟩ := hbest
  simp only [Option.isSome_some, if_true]
  have c4 := blk_cell hg 4
  simp at c4
  have HG := Aside0.mk hg
  have HS := Aside0.mk hS
  clear hS hg
  have HR11 : Aside0 (Kd.C k40 w1 A1 l1.length l1) := ⟨Kd.C_below HR1.out HW.out⟩
  obtain ⟨ak, hak⟩ : ∃ ak, ak = askedF l1 := ⟨_, rfl⟩
  have HAK := Aside0.mk hak
  rw [← hak] at HAF
  have hav : ak = 0 ∨ ak = 1 := by rw [hak]; exact asked_vals l1 none
  clear hak
  rcases hav with rfl | rfl
  ·go_wp2_with fail
   refine (disk_asked.calls _ A1 c1 l1 0 w1 HR11.out hc1 HAF.out).mono ?_
   rintro e w2 ⟨rfl, hB2⟩
   have HB2 := Aside0.mk hB2
   have d4 : w2.cell? ⟨g, 4, none⟩ = some vr := (hB2.cell (p := ⟨g, 4, none⟩) (blk_lt HG.out)).trans c4
   have db : w2.cell? ⟨b, 0, none⟩ = some (.slice A1 l1.length c1) := ((HW.out.trans (HB2.out.mono HW.out.size)).cell (p := ⟨b, 0, none⟩) hbl).trans HBX.out
   clear hB2 c4
   go_wp2_with fail
   refine (write1_any A1 l1.length c1 b vr w2 db).mono ?_
   rintro e w3 ⟨rfl, rfl⟩
   obtain ⟨e64, h8, h256, hj1, _, hv1, hv2, hu⟩ := disk_facts HO.out.symm
   have HG2 : Aside0 (w3.heap[g]? = some (.cells #[.slice A0 l0.length c0, .int .i64 (j : Int), .int .i64 st.ver, .map (some mb), vr] 81 (0, 0))) := ⟨(HB2.out.block g (blk_lt HG.out)).trans HG.out⟩
   have HM2 : Aside0 (MapAt kInt w3 mb (usedMap st.used)) := ⟨HS.out.map.move (HB2.out.block mb HS.out.map.lt)⟩
   have HR12 : Aside0 (Kd.C k40 w3 A1 l1.length l1) := ⟨Kd.C_below HR11.out HB2.out⟩
   have HB3 : Aside0 (Below w.heap.size w w3) := ⟨HW.out.trans (HB2.out.mono HW.out.size)⟩
   obtain ⟨nb, hnb⟩ : ∃ nb, nb = l0.length / 64 := ⟨_, rfl⟩
   rw [← hnb] at h8 h256 hu e64
   have HNB := Aside0.mk hnb
   obtain ⟨ok, hok⟩ : ∃ ok, ok = writesOk nb st.ver (recsB l1) := ⟨_, rfl⟩
   have HOK := Aside0.mk hok
   have HE64 := Aside0.mk e64
   have HV2 := Aside0.mk hv2
   have HU := Aside0.mk hu
   have hW0 : (writeR l0 l1) = if ok then (writesF j st.ver (freeL st.used 2 (nb - 2)) (recsB l1), 0) else ([], 2) := by
    unfold writeR changeR
    rw [← HO.out]
    simp only [← HAK.out, if_true, ← hnb, ← hok]
   have HWR := Aside0.mk hW0
   clear hnb hok e64 hW0 hv2 hu
   cases ok with
   | false =>
    go_wp2_with fail
    refine (writes_bad g mb A0 l0.length c0 j st vr nb A1 c1 l1 w3 HG2.out HE64.out h8 h256 HR12.out hc1 hrb HOK.out.symm).mono ?_
    rintro e w4 ⟨rfl, hB4⟩
    have HB4 := Aside0.mk hB4
    clear hB4
    go_wp2_with fail
    go_returns
    refine ⟨.slice none 0 0, by simp [HWR.out], by simp only [HWR.out]; exact Kd.R_nil _ _ _ _ _, HB3.out.trans (HB4.out.mono HB3.out.size)⟩
   | true =>
    have hfl : ((recsB l1).length + 61) / 62 ≤ (freeL st.used 2 (nb - 2)).length := by
     have h1 := HOK.out
     unfold writesOk at h1
     simp at h1
     exact free_room h8 HU.out h1.1
    have HFL := Aside0.mk hfl
    clear hfl
    go_wp2_with fail
    refine (writes_good g mb A0 l0.length c0 j st vr nb A1 c1 l1 w3 HG2.out HE64.out h8 h256 HM2.out HR12.out hc1 hj1 (by omega) HOK.out.symm HFL.out).mono ?_
    rintro e w4 ⟨v4, rfl, hR4, hB4⟩
    have HB4 := Aside0.mk hB4
    have HR4 := Aside0.mk hR4
    clear hB4 hR4
    go_wp2_with fail
    go_returns
    refine ⟨v4, by simp [HWR.out], by simp only [HWR.out, if_true]; exact Kd.R_lower HR4.out HB3.out.size, HB3.out.trans (HB4.out.mono HB3.out.size)⟩
  ·go_wp2_with fail
   refine (disk_asked.calls _ A1 c1 l1 1 w1 HR11.out hc1 HAF.out).mono ?_
   rintro e w2 ⟨rfl, hB2⟩
   have HB2 := Aside0.mk hB2
   clear hB2 c4
   go_wp2_with fail
   go_returns
   exact ⟨.slice none 0 0, by simp [writeR, ← HO.out, ← HAK.out], by simp only [writeR, ← HO.out, ← HAK.out]; exact Kd.R_nil _ _ _ _ _, HW.out.trans (HB2.out.mono HW.out.size)⟩
theorem disk_Write.calls (A0 : Option Addr) (c0 : Nat) (l0 : List Int) (A1 : Option Addr) (c1 : Nat) (l1 : List S40) (r1 : List S42) (r2 : Int) (w : World) (hr0 : Kd.C (Kd.int .u8) w A0 l0.length l0) (hc0 : l0.length ≤ c0)
  (hr1 : Kd.C k40 w A1 l1.length l1) (hc1 : l1.length ≤ c1) (h : disk_Write.f l0 l1 = some (r1, r2)) :
  Calls Tryz.prog 7 #[.slice A0 l0.length c0, .slice A1 l1.length c1] w fun e w' => ∃ v0_ : Value, e = .returned (.tuple #[v0_, .int .i64 r2]) ∧ Kd.R k42 42 w' w.heap.size (fun _ => True) v0_ r1 ∧ Below w.heap.size w w' := by
 unfold disk_Write.f at h
 by_cases hb : IsBytes l0 ∧ (recsB l1).length ≤ 70368744177664
 rotate_left
 ·rw [if_neg hb] at h; exact absurd h (by simp)
 rw [if_pos hb] at h
 have hh := Option.some.inj h
 have hmf : ∀ (fn : Fn) (first cap : Array Value) (w : World), (Instr.makeFunc fn first cap).run Tryz.prog w = .ok (.func fn first cap) w := fun _ _ _ _ => rfl
 obtain ⟨w1, hw1⟩ : ∃ w1, w1 = w.alloc (.cells #[.slice A1 l1.length c1] 23) := ⟨_, rfl⟩
 have hB1 : Below w.heap.size w w1 := by rw [hw1]; exact below_alloc (Below.refl _ _) _
 have hx : w1.cell? ⟨w.heap.size, 0, none⟩ = some (.slice A1 l1.length c1) := by
  have := blk_cell (heap_alloc_new w (.cells #[.slice A1 l1.length c1] 23)) 0
  rw [hw1]; first | exact this | simp
 have hC := change_w A0 c0 l0 A1 c1 l1 w.heap.size w1 (Kd.C_below hr0 hB1) hc0 hb.1 (Kd.C_below hr1 hB1) hc1 hx hb.2
 rw [hh] at hC
 have HC := Aside0.mk hC
 have HB1 := Aside0.mk hB1
 have HX := Aside0.mk hx
 have HW1 := Aside0.mk hw1
 clear h hr0 hr1 hb hh hC hB1 hx hw1
 go_enter Tryz.func7, Tryz.ntmps7
 go_wp2_with fail
 rw [← HW1.out]
 refine HC.out.mono ?_
 rintro e w2 ⟨v, rfl, hR, hB⟩
 have HR := Aside0.mk hR
 have HB := Aside0.mk hB
 clear hR hB HC
 go_wp2_with fail
 go_returns
 exact ⟨v, rfl, Kd.R_lower HR.out HB1.out.size, HB1.out.trans (HB.out.mono HB1.out.size)⟩
/-- what the examples make -/
structure AwakeF (xD xA xB xC B0 B1 fr : List Int) (rB : List S40) : Prop where
 h1 : disk_Format.f 8 = some (xD, 0)
 h2 : disk_Write.f xD [⟨5, [1, 2, 3]⟩] = some ([⟨2, B0⟩, ⟨1, B1⟩], 0)
 l0 : B0.length = 64
 l1 : B1.length = 64
 s0 : B0.take 15 = [0, 0, 0, 0, 0, 0, 0, 0, 0, 5, 0, 3, 1, 2, 3]
 s1 : B1.take 6 = [0, 1, 0, 13, 0, 2]
 b31 : B1.getD 31 0 = 2
 b63 : B1.getD 63 0 = 2
 h3 : disk_Torn.f xD [⟨2, B0⟩, ⟨1, B1⟩] 1 40 = some (xA, 0)
 h4 : disk_Torn.f xD [⟨2, B0⟩, ⟨1, B1⟩] 1 64 = some (xB, 0)
 h5 : disk_Open.f xA = some ([], 0)
 h6 : disk_Open.f xB = some (rB, 0)
 h7 : disk_Free.f xB = some (fr, 0)
 h8 : disk_Torn.f xD [⟨2, B0⟩, ⟨1, B1⟩] 3 0 = some (xC, 201)
 h9 : disk_Room.f 9 = some (186, 0)
 h10 : berylref20_SameRecords.f 9 rB [⟨5, [1, 2, 3]⟩] = some true
 h11 : berylref20_SameInts.f 9 fr [3, 4, 5, 6, 7] = some true
theorem lit_cell (W : World) (cells : Array Value) (t : TypeId) (j : Nat) (u : Value) (h : cells[j]? = some u) : (W.alloc (.cells cells t)).cell? ((⟨W.heap.size, 0, none⟩ : Addr).add j) = some u := by
 have h2 := blk_cell (heap_alloc_new W (.cells cells t)) j
 rw [h] at h2
 unfold Addr.add
 split
 ·rename_i h0; subst h0; exact h2
 ·simpa using h2
theorem C_lit (k : IntKind) (xs : List Int) (t : TypeId) (W : World) (hl : xs.length ≤ 9223372036854775807) (cells : Array Value) (hc : cells = (xs.map (Value.int k)).toArray) :
  Kd.C (Kd.int k) (W.alloc (.cells cells t)) (some ⟨W.heap.size, 0, none⟩) xs.length xs := by
 subst hc
 refine ⟨rfl, hl, fun _ => ⟨_, rfl, fun j p hj => ⟨[.int k p], rfl, rfl, fun i u hu => ?_⟩⟩⟩
 cases i with
 | zero =>
  simp at hu
  subst hu
  show (W.alloc (.cells (xs.map (Value.int k)).toArray t)).cell? (Addr.add _ (j * 1 + 0)) = _
  rw [Nat.mul_one, Nat.add_zero]
  exact lit_cell W (xs.map (Value.int k)).toArray t j (.int k p) (by simp [hj])
 | succ i => simp at hu
theorem C_lit1 (x : S40) (A : Option Addr) (c : Nat) (W : World) (hc : x.f1.length ≤ c) (hC : Kd.C (Kd.int .u8) W A x.f1.length x.f1) :
  Kd.C k40 (W.alloc (.cells #[.int .i64 x.f0, .slice A x.f1.length c] 40)) (some ⟨W.heap.size, 0, none⟩) 1 [x] := by
 refine ⟨rfl, by omega, fun _ => ⟨_, rfl, fun j p hj => ?_⟩⟩
 cases j with
 | succ j => simp at hj
 | zero =>
  simp at hj
  subst hj
  refine ⟨_, rfl, k40_mk _ x hc (Kd.C_below hC (below_alloc (Below.refl _ _) _)), fun i u hu => ?_⟩
  have := lit_cell W #[.int .i64 x.f0, .slice A x.f1.length c] 40 i u (by simpa using hu)
  simpa using this
/-- the cells of a list of writes -/
theorem puts_cell {W : World} {ad : Addr} {n : Nat} {ps : List S42} (h : Kd.C k42 W (some ad) n ps) (i : Nat) (x : S42) (hx : ps[i]? = some x) :
  ∃ A1 c1, W.cell? (ad.add (i * 2)) = some (.int .i64 x.f0) ∧ W.cell? ⟨ad.block, ad.off + i * 2 + 1, none⟩ = some (.slice A1 x.f1.length c1) ∧ x.f1.length ≤ c1 ∧ Kd.C (Kd.int .u8) W A1 x.f1.length x.f1 := by
 have hl := (List.getElem?_eq_some_iff.1 hx).1
 have hn : 0 < n := by have := h.1; omega
 obtain ⟨ad', e, hc⟩ := h.2.2 hn
 injection e with e
 subst e
 obtain ⟨c, _, hK, hcell⟩ := hc i x hx
 obtain ⟨A1, c1, rfl, l1, g1⟩ := k42_open hK
 refine ⟨A1, c1, (show W.cell? (ad.add (i * 2 + 0)) = _ from hcell 0 _ rfl), ?_, l1, g1⟩
 have := hcell 1 _ rfl
 have e2 : ad.add (i * k42.sz + 1) = ⟨ad.block, ad.off + i * 2 + 1, none⟩ := by
  show ad.add (i * 2 + 1) = _
  unfold Addr.add
  rw [if_neg (by omega)]
  rfl
 rwa [e2] at this
set_option maxRecDepth 100000 in
set_option maxHeartbeats 4000000 in
theorem awake_walk {xD xA xB xC B0 B1 fr : List Int} {rB : List S40} (hA : AwakeF xD xA xB xC B0 B1 fr rB) (w : World) : Calls Tryz.prog 4 #[] w fun e w' => e = .returned (.bool true) ∧ Below w.heap.size w w' := by
 have HA := Aside0.mk hA
 clear hA
 go_enter Tryz.func4, Tryz.ntmps4
 go_wp2_with fail
 refine (disk_Format.calls 8 xD 0 _ HA.out.h1).mono ?_
 rintro e w1 ⟨v1, rfl, hR1, hB1⟩
 obtain ⟨A1, c1, rfl⟩ := Kd.R_slice hR1
 obtain ⟨_, hc1, hC1⟩ := Kd.R_reads' hR1
 have HC1 := Aside0.mk hC1
 have HB1 := Aside0.mk hB1
 clear hR1 hB1 hC1
 go_wp2_with fail
 have HC3 : Aside0 (Kd.C (Kd.int .u8) (w1.alloc (.cells #[.int .u8 1, .int .u8 2, .int .u8 3] 5)) (some ⟨w1.heap.size, 0, none⟩) 3 [1, 2, 3]) := ⟨C_lit .u8 [1, 2, 3] _ w1 (by simp) _ rfl⟩
 obtain ⟨w2, hw2⟩ : ∃ w2, w2 = w1.alloc (.cells #[.int .u8 1, .int .u8 2, .int .u8 3] 5) := ⟨_, rfl⟩
 have z2 : w2.heap.size = w1.heap.size + 1 := by rw [hw2]; simp
 rw [← hw2, ← z2] at ⊢
 have HC3 : Aside0 (Kd.C (Kd.int .u8) w2 (some ⟨w1.heap.size, 0, none⟩) 3 [1, 2, 3]) := ⟨by rw [hw2]; exact HC3.out⟩
 have HC4 : Aside0 (Kd.C k40 (w2.alloc (.cells #[.int .i64 5, .slice (some ⟨w1.heap.size, 0, none⟩) 3 3] 40)) (some ⟨w2.heap.size, 0, none⟩) 1 [⟨5, [1, 2, 3]⟩]) := ⟨C_lit1 ⟨5, [1, 2, 3]⟩ (some ⟨w1.heap.size, 0, none⟩) 3 w2 (by simp) HC3.out⟩
 have HB2 : Aside0 (Below w1.heap.size w1 w2) := ⟨by rw [hw2]; exact below_alloc (Below.refl _ _) _⟩
 generalize hw3 : w2.alloc (.cells #[.int .i64 5, .slice (some ⟨w1.heap.size, 0, none⟩) 3 3] 40) = w3 at HC4
 have HW3 := Aside0.mk hw3
 have HB3 : Aside0 (Below w2.heap.size w2 w3) := ⟨by rw [← hw3]; exact below_alloc (Below.refl _ _) _⟩
 have Z2 := Aside0.mk z2
 clear hw2 z2
 clear hw3
 have HB13 : Aside0 (Below w1.heap.size w1 w3) := ⟨HB2.out.trans (HB3.out.mono HB2.out.size)⟩
 have HC13 : Aside0 (Kd.C (Kd.int .u8) w3 A1 xD.length xD) := ⟨Kd.C_below HC1.out HB13.out⟩
 refine (disk_Write.calls _ _ xD _ 1 [⟨5, [1, 2, 3]⟩] [⟨2, B0⟩, ⟨1, B1⟩] 0 _ HC13.out hc1 HC4.out (Nat.le_refl _) HA.out.h2).mono ?_
 rintro e w4 ⟨v4, rfl, hR4, hB4⟩
 obtain ⟨A4, c4, rfl⟩ := Kd.R_slice hR4
 obtain ⟨_, hc4, hC4⟩ := Kd.R_reads' hR4
 obtain ⟨ad, _, rfl, _⟩ : ∃ ad, ∃ _ : True, A4 = some ad ∧ True := by obtain ⟨ad, e, _⟩ := hC4.2.2 (by simp); exact ⟨ad, trivial, e, trivial⟩
 obtain ⟨P0, q0, e00, e01, l0, g0⟩ := puts_cell hC4 0 _ rfl
 obtain ⟨P1, q1, e10, e11, l1, g1⟩ := puts_cell hC4 1 _ rfl
 simp only [Nat.zero_mul, Nat.one_mul, Nat.add_zero, List.length_cons, List.length_nil, Nat.zero_add, Nat.reduceAdd, HA.out.l0, HA.out.l1] at e00 e01 e10 e11 l0 l1 hc4 ⊢
 have g0 : Kd.C (Kd.int .u8) w4 P0 B0.length B0 := g0
 have g1 : Kd.C (Kd.int .u8) w4 P1 B1.length B1 := g1
 obtain ⟨a1, rfl, hcb⟩ : ∃ a1, P1 = some a1 ∧ ∀ k, k < 64 → w4.cell? (a1.add k) = some (.int .u8 (B1.getD k 0)) := by
  have hrd := Kd.reads_of_C (d := (0 : Int)) (h1 := fun _ => rfl) g1
  have hl1 := HA.out.l1
  obtain ⟨ad', e, hc⟩ := hrd.2.2 (by omega)
  exact ⟨ad', e, fun k hk => hc k (by omega)⟩
 have f31 := hcb 31 (by omega)
 have f63 := hcb 63 (by omega)
 rw [HA.out.b31] at f31
 rw [HA.out.b63] at f63
 have t0 : Kd.C (Kd.int .u8) w4 P0 15 (B0.take 15) := C_takeN g0 15 (by rw [HA.out.l0]; omega)
 have t1 : Kd.C (Kd.int .u8) w4 (some a1) 6 (B1.take 6) := C_takeN g1 6 (by rw [HA.out.l1]; omega)
 rw [HA.out.s0] at t0
 rw [HA.out.s1] at t1
 have hs0 := Kd.C_string (P := Tryz.prog) (c := q0) Tryz.underlying22 Tryz.underlying5 Tryz.underlying9 t0
 have hs1 := Kd.C_string (P := Tryz.prog) (c := q1) Tryz.underlying22 Tryz.underlying5 Tryz.underlying9 t1
 rw [show strOfNums [0, 0, 0, 0, 0, 0, 0, 0, 0, 5, 0, 3, 1, 2, 3] = { data := #[0, 0, 0, 0, 0, 0, 0, 0, 0, 5, 0, 3, 1, 2, 3] } from rfl] at hs0
 rw [show strOfNums [0, 1, 0, 13, 0, 2] = { data := #[0, 1, 0, 13, 0, 2] } from rfl] at hs1
 have e00' : w4.cell? ad = some (.int .i64 2) := e00
 have e10' : w4.cell? ⟨ad.block, ad.off + 2, none⟩ = some (.int .i64 1) := e10
 have f31' : w4.cell? ⟨a1.block, a1.off + 31, none⟩ = some (.int .u8 2) := f31
 have f63' : w4.cell? ⟨a1.block, a1.off + 63, none⟩ = some (.int .u8 2) := f63
 have HC4w := Aside0.mk hC4
 have HB4 := Aside0.mk hB4
 clear hR4 hC4 hB4 g0 g1 t0 t1 hcb
 go_wp2_with fail
 have HD4 : Aside0 (Kd.C (Kd.int .u8) w4 A1 xD.length xD) := ⟨Kd.C_below HC13.out HB4.out⟩
 have HL4 : Aside0 (Kd.C k40 w4 (some ⟨w2.heap.size, 0, none⟩) 1 [⟨5, [1, 2, 3]⟩]) := ⟨Kd.C_below HC4.out HB4.out⟩
 have HW4 : Aside0 (Below w.heap.size w w4) := ⟨HB1.out.trans ((HB13.out.trans (HB4.out.mono HB13.out.size)).mono HB1.out.size)⟩
 clear e00 e01 e10 e11 e00' e10' f31 f63 f31' f63' hs0 hs1 g0 g1 l0 l1
 have HP4 : Aside0 (Kd.C k42 w4 (some ad) 2 [⟨2, B0⟩, ⟨1, B1⟩]) := ⟨HC4w.out⟩
 refine (disk_Torn.calls A1 c1 xD (some ad) c4 [⟨2, B0⟩, ⟨1, B1⟩] 1 40 xA 0 w4 HD4.out hc1 HP4.out hc4 HA.out.h3).mono ?_
 rintro e w5 ⟨v5, rfl, hR, hB⟩
 have HD5 : Aside0 (Kd.C (Kd.int .u8) w5 A1 xD.length xD) := ⟨Kd.C_below HD4.out hB⟩
 have HL5 : Aside0 (Kd.C k40 w5 (some ⟨w2.heap.size, 0, none⟩) 1 [⟨5, [1, 2, 3]⟩]) := ⟨Kd.C_below HL4.out hB⟩
 have HP5 : Aside0 (Kd.C k42 w5 (some ad) 2 [⟨2, B0⟩, ⟨1, B1⟩]) := ⟨Kd.C_below HP4.out hB⟩
 have HW5 : Aside0 (Below w.heap.size w w5) := ⟨HW4.out.trans (hB.mono HW4.out.size)⟩
 obtain ⟨A5, c5, rfl⟩ := Kd.R_slice hR
 obtain ⟨_, hc5, hC⟩ := Kd.R_reads' hR
 have HXA5 : Aside0 (Kd.C (Kd.int .u8) w5 A5 xA.length xA) := ⟨hC⟩
 clear hR hB hC
 go_wp2_with fail
 refine (disk_Torn.calls A1 c1 xD (some ad) c4 [⟨2, B0⟩, ⟨1, B1⟩] 1 64 xB 0 w5 HD5.out hc1 HP5.out hc4 HA.out.h4).mono ?_
 rintro e w6 ⟨v6, rfl, hR, hB⟩
 have HD6 : Aside0 (Kd.C (Kd.int .u8) w6 A1 xD.length xD) := ⟨Kd.C_below HD5.out hB⟩
 have HL6 : Aside0 (Kd.C k40 w6 (some ⟨w2.heap.size, 0, none⟩) 1 [⟨5, [1, 2, 3]⟩]) := ⟨Kd.C_below HL5.out hB⟩
 have HP6 : Aside0 (Kd.C k42 w6 (some ad) 2 [⟨2, B0⟩, ⟨1, B1⟩]) := ⟨Kd.C_below HP5.out hB⟩
 have HXA6 : Aside0 (Kd.C (Kd.int .u8) w6 A5 xA.length xA) := ⟨Kd.C_below HXA5.out hB⟩
 have HW6 : Aside0 (Below w.heap.size w w6) := ⟨HW5.out.trans (hB.mono HW5.out.size)⟩
 obtain ⟨A6, c6, rfl⟩ := Kd.R_slice hR
 obtain ⟨_, hc6, hC⟩ := Kd.R_reads' hR
 have HXB6 : Aside0 (Kd.C (Kd.int .u8) w6 A6 xB.length xB) := ⟨hC⟩
 clear hR hB hC
 go_wp2_with fail
 refine (disk_Open.calls A5 c5 xA [] 0 w6 HXA6.out hc5 HA.out.h5).mono ?_
 rintro e w7 ⟨v7, rfl, hR, hB⟩
 have HD7 : Aside0 (Kd.C (Kd.int .u8) w7 A1 xD.length xD) := ⟨Kd.C_below HD6.out hB⟩
 have HL7 : Aside0 (Kd.C k40 w7 (some ⟨w2.heap.size, 0, none⟩) 1 [⟨5, [1, 2, 3]⟩]) := ⟨Kd.C_below HL6.out hB⟩
 have HP7 : Aside0 (Kd.C k42 w7 (some ad) 2 [⟨2, B0⟩, ⟨1, B1⟩]) := ⟨Kd.C_below HP6.out hB⟩
 have HXA7 : Aside0 (Kd.C (Kd.int .u8) w7 A5 xA.length xA) := ⟨Kd.C_below HXA6.out hB⟩
 have HXB7 : Aside0 (Kd.C (Kd.int .u8) w7 A6 xB.length xB) := ⟨Kd.C_below HXB6.out hB⟩
 have HW7 : Aside0 (Below w.heap.size w w7) := ⟨HW6.out.trans (hB.mono HW6.out.size)⟩
 obtain ⟨A7, c7, rfl⟩ := Kd.R_slice hR
 clear hR hB
 go_wp2_with fail
 refine (disk_Open.calls A6 c6 xB rB 0 w7 HXB7.out hc6 HA.out.h6).mono ?_
 rintro e w8 ⟨v8, rfl, hR, hB⟩
 have HD8 : Aside0 (Kd.C (Kd.int .u8) w8 A1 xD.length xD) := ⟨Kd.C_below HD7.out hB⟩
 have HL8 : Aside0 (Kd.C k40 w8 (some ⟨w2.heap.size, 0, none⟩) 1 [⟨5, [1, 2, 3]⟩]) := ⟨Kd.C_below HL7.out hB⟩
 have HP8 : Aside0 (Kd.C k42 w8 (some ad) 2 [⟨2, B0⟩, ⟨1, B1⟩]) := ⟨Kd.C_below HP7.out hB⟩
 have HXA8 : Aside0 (Kd.C (Kd.int .u8) w8 A5 xA.length xA) := ⟨Kd.C_below HXA7.out hB⟩
 have HXB8 : Aside0 (Kd.C (Kd.int .u8) w8 A6 xB.length xB) := ⟨Kd.C_below HXB7.out hB⟩
 have HW8 : Aside0 (Below w.heap.size w w8) := ⟨HW7.out.trans (hB.mono HW7.out.size)⟩
 obtain ⟨A8, c8, rfl⟩ := Kd.R_slice hR
 obtain ⟨_, hc8, hC⟩ := Kd.R_reads' hR
 have HRB8 : Aside0 (Kd.C k40 w8 A8 rB.length rB) := ⟨hC⟩
 clear hR hB hC
 go_wp2_with fail
 refine (disk_Free.calls A6 c6 xB fr 0 w8 HXB8.out hc6 HA.out.h7).mono ?_
 rintro e w9 ⟨v9, rfl, hR, hB⟩
 have HD9 : Aside0 (Kd.C (Kd.int .u8) w9 A1 xD.length xD) := ⟨Kd.C_below HD8.out hB⟩
 have HL9 : Aside0 (Kd.C k40 w9 (some ⟨w2.heap.size, 0, none⟩) 1 [⟨5, [1, 2, 3]⟩]) := ⟨Kd.C_below HL8.out hB⟩
 have HP9 : Aside0 (Kd.C k42 w9 (some ad) 2 [⟨2, B0⟩, ⟨1, B1⟩]) := ⟨Kd.C_below HP8.out hB⟩
 have HXA9 : Aside0 (Kd.C (Kd.int .u8) w9 A5 xA.length xA) := ⟨Kd.C_below HXA8.out hB⟩
 have HXB9 : Aside0 (Kd.C (Kd.int .u8) w9 A6 xB.length xB) := ⟨Kd.C_below HXB8.out hB⟩
 have HRB9 : Aside0 (Kd.C k40 w9 A8 rB.length rB) := ⟨Kd.C_below HRB8.out hB⟩
 have HW9 : Aside0 (Below w.heap.size w w9) := ⟨HW8.out.trans (hB.mono HW8.out.size)⟩
 obtain ⟨A9, c9, rfl⟩ := Kd.R_slice hR
 obtain ⟨_, hc9, hC⟩ := Kd.R_reads' hR
 have HFR9 : Aside0 (Kd.C (Kd.int .i64) w9 A9 fr.length fr) := ⟨hC⟩
 clear hR hB hC
 go_wp2_with fail
 refine (disk_Torn.calls A1 c1 xD (some ad) c4 [⟨2, B0⟩, ⟨1, B1⟩] 3 0 xC 201 w9 HD9.out hc1 HP9.out hc4 HA.out.h8).mono ?_
 rintro e w10 ⟨v10, rfl, hR, hB⟩
 have HD10 : Aside0 (Kd.C (Kd.int .u8) w10 A1 xD.length xD) := ⟨Kd.C_below HD9.out hB⟩
 have HL10 : Aside0 (Kd.C k40 w10 (some ⟨w2.heap.size, 0, none⟩) 1 [⟨5, [1, 2, 3]⟩]) := ⟨Kd.C_below HL9.out hB⟩
 have HP10 : Aside0 (Kd.C k42 w10 (some ad) 2 [⟨2, B0⟩, ⟨1, B1⟩]) := ⟨Kd.C_below HP9.out hB⟩
 have HXA10 : Aside0 (Kd.C (Kd.int .u8) w10 A5 xA.length xA) := ⟨Kd.C_below HXA9.out hB⟩
 have HXB10 : Aside0 (Kd.C (Kd.int .u8) w10 A6 xB.length xB) := ⟨Kd.C_below HXB9.out hB⟩
 have HRB10 : Aside0 (Kd.C k40 w10 A8 rB.length rB) := ⟨Kd.C_below HRB9.out hB⟩
 have HFR10 : Aside0 (Kd.C (Kd.int .i64) w10 A9 fr.length fr) := ⟨Kd.C_below HFR9.out hB⟩
 have HW10 : Aside0 (Below w.heap.size w w10) := ⟨HW9.out.trans (hB.mono HW9.out.size)⟩
 obtain ⟨A10, c10, rfl⟩ := Kd.R_slice hR
 clear hR hB
 go_wp2_with fail
 refine (disk_Room.calls 9 186 0 w10 HA.out.h9).mono ?_
 rintro e w11 ⟨rfl, ⟨nd, rfl⟩⟩
 go_wp2_with fail
 refine (berylref20_SameRecords.calls 9 A8 c8 rB _ 1 [⟨5, [1, 2, 3]⟩] true (w10.drewN nd) (Kd.C_drewN HRB10.out nd) hc8 (Kd.C_drewN HL10.out nd) (Nat.le_refl _) HA.out.h10).mono ?_
 rintro e w12 ⟨rfl, ⟨nd2, rfl⟩⟩
 go_wp2_with fail
 obtain ⟨w13, hw13⟩ : ∃ w13, w13 = w10.drewN (nd + nd2) := ⟨_, rfl⟩
 have hB13 : Below w10.heap.size w10 w13 := by rw [hw13]; exact pw_below_drewN (Below.refl _ _) _
 have z13 : w10.heap.size = w13.heap.size := by rw [hw13]; simp [World.drewN]
 have HW13 : Aside0 (Below w.heap.size w w13) := ⟨HW10.out.trans (hB13.mono HW10.out.size)⟩
 have HFR13 : Aside0 (Kd.C (Kd.int .i64) w13 A9 fr.length fr) := ⟨Kd.C_below HFR10.out hB13⟩
 rw [← hw13, z13]
 have hF5 := C_lit .i64 [3, 4, 5, 6, 7] 3 w13 (by simp) _ rfl
 have hB14 := below_alloc (Below.refl w13.heap.size w13) (.cells #[.int .i64 3, .int .i64 4, .int .i64 5, .int .i64 6, .int .i64 7] 3)
 refine (berylref20_SameInts.calls 9 A9 c9 fr _ 5 [3, 4, 5, 6, 7] true _ (Kd.C_below HFR13.out hB14) hc9 hF5 (by simp) HA.out.h11).mono ?_
 rintro e w14 ⟨rfl, ⟨nd3, rfl⟩⟩
 have HW14 : Aside0 (Below w.heap.size w (w13.alloc (.cells #[.int .i64 3, .int .i64 4, .int .i64 5, .int .i64 6, .int .i64 7] 3))) := ⟨HW13.out.trans (hB14.mono HW13.out.size)⟩
 clear hB13 hB14 hF5 hw13 z13
 go_wp2_with fail
 go_returns
 exact ⟨rfl, pw_below_drewN HW14.out _⟩
def xD : List Int := formatL 8
def xW : List S42 := (writeR xD [⟨5, [1, 2, 3]⟩]).1
def tornR (whole part : Int) : List Int := ((disk_Torn.f xD xW whole part).getD ([], 0)).1
theorem awake_f : ∃ xA xB xC B0 B1 fr rB, AwakeF xD xA xB xC B0 B1 fr rB := by
 refine ⟨tornR 1 40, tornR 1 64, tornR 3 0, (xW.getD 0 ⟨0, []⟩).f1, (xW.getD 1 ⟨0, []⟩).f1, [3, 4, 5, 6, 7], [⟨5, [1, 2, 3]⟩], ?_, ?_, ?_, ?_, ?_, ?_, ?_, ?_, ?_, ?_, ?_, ?_, ?_, ?_, ?_, ?_, ?_⟩
 ·kernel_rfl
 all_goals kernel_rfl
def beryllaw20_awake.f : Option Bool := some true
theorem beryllaw20_awake.calls (r : Bool) (w : World) (h : beryllaw20_awake.f = some r) : Calls Tryz.prog 4 #[] w fun e w' => e = .returned (.bool r) ∧ Below w.heap.size w w' := by
 obtain rfl := Option.some.inj h
 obtain ⟨_, _, _, _, _, _, _, hA⟩ := awake_f
 exact awake_walk hA w
end Go.Proofs.YtcdpkdehogcjnaaGreat.Print
