/- Which maps are valid; a map of one's own; forgetting and where an object is: contracts, whatever the input. -/
import Derived.Test.YtjnceoohlcchnaaRB
import Derived.Deep.DeepCutAuto
import Derived.Deep.CutBlock
import Derived.Test.YtjnceoohlcchnaaRA
set_option linter.unusedVariables false
set_option linter.unusedSimpArgs false
/-! Which maps are right: the walk. -/
namespace Go.Proofs.Ytjnceoohlcchnaa.Print
open Go Go.RowKit Go.Deep Go.Proofs.YtjnceoohlcchnaaW.PrintWords Go.Proofs.YtjnceoohlcchnaaW.PrintLast Go.Proofs.YtjnceoohlcchnaaW.PrintMore

def valH (m : List (Int × S31)) : List (Int × Value) := m.map fun p => (p.1, hintV p.2)
theorem valH_get (m : List (Int × S31)) (k : Int) : mget (valH m) k = (mget m k).map hintV := by
  induction m with
  | nil => rfl
  | cons p m ih =>
    obtain ⟨k', v'⟩ := p
    by_cases h : k = k'
    · simp [valH, mget, h]
    · have e1 : mget (valH ((k', v') :: m)) k = mget (valH m) k := by simp [valH, mget, h]
      have e2 : mget ((k', v') :: m) k = mget m k := by simp [mget, h]
      rw [e1, e2, ih]
theorem valH_put (m : List (Int × S31)) (k : Int) (v : S31) : valH (mput m k v) = mput (valH m) k (hintV v) := by
  induction m with
  | nil => rfl
  | cons p m ih =>
    obtain ⟨k', v'⟩ := p
    simp only [mput, valH, List.map_cons]
    split
    · simp
    · rw [List.map_cons]
      exact congrArg _ ih
theorem look_has {w : World} {mb : Nat} {m : List (Int × S31)} (h : MapAt kInt w mb (valH m)) (k : Int) :
    (Instr.lookup 116 (.map (some mb)) (.int .i64 k) true).run Try.prog w = .ok (.tuple #[match mget m k with | some y => .agg #[.int .i64 y.f0, .int .i64 y.f1, .int .i64 y.f2] | none => .agg #[.int .i64 0, .int .i64 0, .int .i64 0], .bool (mget m k).isSome]) w := by
  have e := run_lookup_ok (kInt_enc Try.underlying3) Try.underlying116 h k (z := .agg #[.int .i64 0, .int .i64 0, .int .i64 0]) (by kernel_rfl)
  rw [valH_get] at e
  cases hg : mget m k with
  | none => rw [hg] at e; exact e
  | some y => rw [hg] at e; exact e
def valI (s : List ((Int × Int) × Int)) : List ((Int × Int) × Value) := s.map fun p => (p.1, .int .i64 p.2)
theorem valI_get (m : List ((Int × Int) × Int)) (k : Int × Int) : mget (valI m) k = (mget m k).map (Value.int .i64) := by
  induction m with
  | nil => rfl
  | cons p m ih =>
    obtain ⟨k', v'⟩ := p
    by_cases h : k = k'
    · simp [valI, mget, h]
    · have e1 : mget (valI ((k', v') :: m)) k = mget (valI m) k := by simp [valI, mget, h]
      have e2 : mget ((k', v') :: m) k = mget m k := by simp [mget, h]
      rw [e1, e2, ih]
theorem valI_put (m : List ((Int × Int) × Int)) (k : Int × Int) (v : Int) : valI (mput m k v) = mput (valI m) k (.int .i64 v) := by
  induction m with
  | nil => rfl
  | cons p m ih =>
    obtain ⟨k', v'⟩ := p
    simp only [mput, valI, List.map_cons]
    split
    · simp
    · rw [List.map_cons]
      exact congrArg _ ih
theorem look_said {w : World} {ms : Nat} {s : List ((Int × Int) × Int)} (h : MapAt kMom w ms (valI s)) (a b : Int) :
    (Instr.lookup 117 (.map (some ms)) (.agg #[.int .i64 a, .int .i64 b]) true).run Try.prog w = .ok (.tuple #[.int .i64 ((mget s (a, b)).getD 0), .bool (mget s (a, b)).isSome]) w := by
  have e := run_lookup_any mom_enc Try.underlying117 h (a, b) (z := .int .i64 0) (by kernel_rfl)
  rw [valI_get] at e
  cases hg : mget s (a, b) with
  | none => rw [hg] at e; exact e
  | some y => rw [hg] at e; exact e
theorem look_has2 {w : World} {mb : Nat} {m : List (Int × S31)} (h : MapAt kInt w mb (valH m)) (k : Int) :
    (Instr.lookup 116 (.map (some mb)) (.int .i64 k) true).run Try.prog w = .ok (.tuple #[.agg #[.int .i64 ((mget m k).getD ⟨0, 0, 0⟩).f0, .int .i64 ((mget m k).getD ⟨0, 0, 0⟩).f1, .int .i64 ((mget m k).getD ⟨0, 0, 0⟩).f2], .bool (mget m k).isSome]) w := by
  rw [look_has h k]
  cases mget m k <;> rfl
theorem eq_hint (a b : S31) (w : World) : (Op.equal 31 (.agg #[.int .i64 a.f0, .int .i64 a.f1, .int .i64 a.f2]) (.agg #[.int .i64 b.f0, .int .i64 b.f1, .int .i64 b.f2])).run Try.prog w = .ok ((a.f0 == b.f0) && ((a.f1 == b.f1) && (a.f2 == b.f2))) w :=
  eqA_of (d := 9999) (xs := #[.int .i64 a.f0, .int .i64 a.f1, .int .i64 a.f2]) (ys := #[.int .i64 b.f0, .int .i64 b.f1, .int .i64 b.f2]) (w := w) Try.underlying31 (by kernel_rfl) (r := (a.f0 == b.f0) && ((a.f1 == b.f1) && (a.f2 == b.f2)))
    (eqf_cons (a := .int .i64 a.f0) (b := .int .i64 b.f0) (by rfl) (run_part_plain w (by kernel_rfl) rfl) (run_part_plain w (by kernel_rfl) rfl) (eq_int _ _ _ _ _ Try.underlying3)
      (eqf_cons (a := .int .i64 a.f1) (b := .int .i64 b.f1) (by rfl) (run_part_plain w (by kernel_rfl) rfl) (run_part_plain w (by kernel_rfl) rfl) (eq_int _ _ _ _ _ Try.underlying3)
        (eqf_last (a := .int .i64 a.f2) (b := .int .i64 b.f2) (by rfl) (run_part_plain w (by kernel_rfl) rfl) (run_part_plain w (by kernel_rfl) rfl) (eq_int _ _ _ _ _ Try.underlying3))))
theorem blk2 {w : World} {g : Nat} {t : TypeId} {a b : Value} (h : w.heap[g]? = some (.cells #[a, b] t (0, 0))) :
    w.cell? ⟨g, 0, none⟩ = some a ∧ w.cell? ⟨g, 1, none⟩ = some b := by
  have h0 := blk_cell h 0
  have h1 := blk_cell h 1
  simp at h0 h1
  exact ⟨h0, h1⟩
theorem valI_nil : valI [] = [] := rfl
theorem map_no_row {w : World} {mb g : Nat} {t : TypeId} {cs : Array Value} {κ : Type} {enc : κ → Value} {m : List (κ × Value)} [DecidableEq κ] (h : MapAt enc w mb m) (hg : w.heap[g]? = some (.cells cs t (0, 0))) : g ≠ mb := by
  rintro rfl
  obtain ⟨_, _, h, _⟩ := h
  rw [h] at hg
  cases hg
/-- what stays in both loops over the objects -/
structure VK (w : World) (mb ms : Nat) (m : List (Int × S31)) (s : List ((Int × Int) × Value)) (wr : World) : Prop where
  hm : MapAt kInt wr mb (valH m)
  sm : MapAt kMom wr ms s
  hb : Below w.heap.size w wr
  h1 : w.heap.size ≤ mb
  h2 : w.heap.size ≤ ms
  ne : mb ≠ ms
theorem VK.step {w : World} {mb ms : Nat} {m : List (Int × S31)} {s : List ((Int × Int) × Value)} {wr w2 : World} (h : VK w mb ms m s wr) (hB : Below wr.heap.size wr w2) : VK w mb ms m s w2 :=
  ⟨h.hm.move (hB.block mb h.hm.lt), h.sm.move (hB.block ms h.sm.lt), h.hb.trans (hB.mono h.hb.size), h.h1, h.h2, h.ne⟩
theorem VK.drewN {w : World} {mb ms : Nat} {m : List (Int × S31)} {s : List ((Int × Int) × Value)} {wr : World} (h : VK w mb ms m s wr) (n : Nat) : VK w mb ms m s (wr.drewN n) := h.step (pw_below_drewN (Below.refl _ _) _)
/-- loop 2: the objects of one place -/
def V2Rel (w : World) (mb ms gx : Nat) (i : Nat) (x : S36) (A1 : Option Addr) (c1 : Nat) (A2 : Option Addr) (c2 : Nat) (m0 : List (Int × S31)) (u69 : Value) (wr : World) : Prop :=
  ∃ (j : Nat) (m : List (Int × S31)), u69 = .int .i64 j ∧ j ≤ x.f1.length ∧ Aside0 (hasL (i : Int) x.f2 (x.f1.drop j) m = hasL (i : Int) x.f2 x.f1 m0) ∧ Aside0 (VK w mb ms m [] wr) ∧
    Aside0 (wr.heap[gx]? = some (.cells #[.bool x.f0, .slice A1 x.f1.length c1, .slice A2 x.f2.length c2] 81 (0, 0)))
/-- loop 1: the places -/
def V1Rel (w : World) (mb ms : Nat) (l : List S36) (p : Int) (u28 : Value) (wr : World) : Prop :=
  ∃ (i : Nat) (m : List (Int × S31)), u28 = .int .i64 i ∧ i ≤ l.length ∧ Aside0 (hasA p (i : Int) (l.drop i) m = hasA p 0 l []) ∧ Aside0 (VK w mb ms m [] wr)
/-- loop 4: the hints of one place -/
def V4Rel (w : World) (mb ms : Nat) (x : S36) (m : List (Int × S31)) (s0 : List ((Int × Int) × Int)) (u111 : Value) (wr : World) : Prop :=
  ∃ (j : Nat) (s : List ((Int × Int) × Int)), u111 = .int .i64 j ∧ j ≤ x.f2.length ∧ Aside0 (saidL m (x.f2.drop j) s = saidL m x.f2 s0) ∧ Aside0 (VK w mb ms m (valI s) wr)
/-- loop 3: the places again -/
def V3Rel (w : World) (mb ms : Nat) (l : List S36) (m : List (Int × S31)) (u103 : Value) (wr : World) : Prop :=
  ∃ (i : Nat) (s : List ((Int × Int) × Int)), u103 = .int .i64 i ∧ i ≤ l.length ∧ Aside0 (saidA m (l.drop i) s = saidA m l []) ∧ Aside0 (VK w mb ms m (valI s) wr)
theorem clash_f {m : List (Int × S31)} {h : S31} (e : (mget m h.f0).isSome = false) : clash m h = false := by
  unfold clash
  cases hg : mget m h.f0 with
  | none => rfl
  | some x => rw [hg] at e; cases e
theorem clash_t {m : List (Int × S31)} {h : S31} (e : (mget m h.f0).isSome = true) : clash m h = (decide (((mget m h.f0).getD ⟨0, 0, 0⟩).f2 < h.f2) || (decide (((mget m h.f0).getD ⟨0, 0, 0⟩).f2 = h.f2) && !(decide (((mget m h.f0).getD ⟨0, 0, 0⟩).f0 = h.f0) && decide (((mget m h.f0).getD ⟨0, 0, 0⟩).f1 = h.f1)))) := by
  unfold clash
  cases hg : mget m h.f0 with
  | none => rw [hg] at e; cases e
  | some x => rfl
theorem saidL_step {m : List (Int × S31)} {h : S31} {l : List S31} {s : List ((Int × Int) × Int)} : saidL m (h :: l) s = if ((mget s (h.f0, h.f2)).isSome && ((mget s (h.f0, h.f2)).getD 0 != h.f1)) = true then none else if clash m h = true then none else saidL m l (mput s (h.f0, h.f2) h.f1) := by
  rw [saidL]
  cases hg : mget s (h.f0, h.f2) with
  | none => rfl
  | some q =>
    by_cases e : q = h.f1
    · simp [e]
    · simp [e]
set_option maxRecDepth 100000 in
set_option maxHeartbeats 8000000 in
theorem valid_any (A : Option Addr) (n c : Nat) (l : List S36) (p : Int) (w : World) (hn : n = l.length) (hr : Kd.C k36 w A l.length l) (hc : n ≤ c) (hl : Short l) :
    Calls Try.prog 55 #[.slice A n c, .int .i64 p] w fun e w' => e = .returned (.bool (validF l p)) ∧ Below w.heap.size w w' := by
  subst hn
  have HR := Aside0.mk hr
  have HS := Aside0.mk hl
  have hl6 := hl.1
  have kmm := @run_makeMap Try.prog
  clear hr hl
  go_enter Try.func55, Try.ntmps55
  go_upto_region 3 with fail
  obtain ⟨mb, hmb⟩ : ∃ mb, mb = w.heap.size := ⟨_, rfl⟩
  obtain ⟨ms, hms⟩ : ∃ ms, ms = w.heap.size + 1 := ⟨_, rfl⟩
  rw [← hms, ← hmb]
  obtain ⟨w1, hw1⟩ : ∃ w1, w1 = (w.alloc (.map #[] 0)).alloc (.map #[] 0) := ⟨_, rfl⟩
  rw [← hw1]
  have HK1 : Aside0 (VK w mb ms [] [] w1) := ⟨by
    have h1 : MapAt kInt (w.alloc (.map #[] 0)) mb ([] : List (Int × Value)) := by rw [hmb]; exact MapAt.made w
    have h2 : MapAt kMom w1 ms ([] : List ((Int × Int) × Value)) := by
      have h := MapAt.made (enc := kMom) (w.alloc (.map #[] 0))
      rw [hw1, hms]
      simpa using h
    exact ⟨by rw [hw1]; exact h1.move (Below.heap_alloc _ _ _ h1.lt), h2, by rw [hw1]; exact below_alloc (below_alloc (Below.refl _ _) _) _, by omega, by omega, by omega⟩⟩
  clear hw1 hmb hms kmm
  go_wp2_with fail
  go_loopw [28] (fun u28 wr => V1Rel w mb ms l p u28 wr) (fun u28 _ => l.length - (intOf u28).toNat)
  case atStart => exact ⟨0, [], rfl, Nat.zero_le _, ⟨rfl⟩, HK1⟩
  case round =>
    obtain ⟨i, m, rfl, hi, HE, HK⟩ := hrel
    by_cases hlt : i < l.length
    rotate_left
    · have hd : decide (i < l.length) = false := decide_eq_false hlt
      have HM : Aside0 (hasA p 0 l [] = some m) := ⟨by rw [← HE.out, List.drop_of_length_le (by omega), hasA]⟩
      clear HE
      go_wp2_with fail
      go_loopw [103] (fun u103 wq => V3Rel w mb ms l m u103 wq) (fun u103 _ => l.length - (intOf u103).toNat)
      case atStart => exact ⟨0, [], rfl, Nat.zero_le _, ⟨rfl⟩, HK⟩
      case round =>
        clear HK hd hlt hi
        obtain ⟨i3, s, rfl, hi3, HE, HK⟩ := hrel
        by_cases hlt3 : i3 < l.length
        rotate_left
        · have hd3 : decide (i3 < l.length) = false := decide_eq_false hlt3
          have HV : Aside0 (validF l p = true) := ⟨by
            have h := HE.out
            rw [List.drop_of_length_le (by omega), saidA] at h
            unfold validF
            rw [HM.out]
            show (saidA m l []).isSome = true
            rw [← h]
            rfl⟩
          clear HE
          go_wp2_with fail
          go_returns
          exact ⟨by rw [HV.out]; rfl, HK.out.hb⟩
        have hd3 : decide (i3 < l.length) = true := decide_eq_true hlt3
        obtain ⟨ad, x, A1, c1, A2, c2, rfl, hx, r0, r1, r2, hc1, hC1, hc2, hC2⟩ := post_at HR.out i3 hlt3
        have p0 := (HK.out.hb.cell (World.block_lt_of_cell? w _ r0)).trans r0
        have p1 := (HK.out.hb.cell (World.block_lt_of_cell? w _ r1)).trans r1
        have p2 := (HK.out.hb.cell (World.block_lt_of_cell? w _ r2)).trans r2
        have HC2 := Aside0.mk hC2
        have hst : saidA m (l.drop i3) s = (saidL m x.f2 s).bind (saidA m (l.drop (i3 + 1))) := by
          obtain ⟨hil, e⟩ := List.getElem?_eq_some_iff.1 hx
          rw [List.drop_eq_getElem_cons hil, saidA, e]
        rw [HE.out] at hst
        have HST := Aside0.mk hst
        have HSX := Aside0.mk (HS.out.2 x (List.mem_of_getElem? hx))
        have hx2 : x.f2.length ≤ 1000000000000 := HSX.out.2
        clear hx hC1 hC2 hst HE r0 r1 r2
        have hu := Try.underlying81
        go_upto_region 23 with fail
        obtain ⟨gx, hgx⟩ : ∃ g, g = wr.heap.size := ⟨_, rfl⟩
        obtain ⟨W, hW⟩ : ∃ W, W = wr.alloc (Obj.cells #[Value.bool x.f0, Value.slice A1 x.f1.length c1, Value.slice A2 x.f2.length c2] 81) := ⟨_, rfl⟩
        rw [← hW, ← hgx]
        have hBW : Below wr.heap.size wr W := by rw [hW]; exact below_alloc (Below.refl _ _) _
        have HQ : Aside0 (W.heap[gx]? = some (.cells #[.bool x.f0, .slice A1 x.f1.length c1, .slice A2 x.f2.length c2] 81 (0, 0))) := ⟨by rw [hW, hgx]; exact heap_alloc_new _ _⟩
        have HKW := Aside0.mk (HK.out.step hBW)
        clear hW hgx hBW HK p0 p1 p2
        obtain ⟨k0, k1, k2, f0, f1, f2⟩ := blk3 HQ.out
        go_wp2_with fail
        go_loopw [111] (fun u111 wq => V4Rel w mb ms x m s u111 wq) (fun u111 _ => x.f2.length - (intOf u111).toNat)
        case atStart => exact ⟨0, s, rfl, Nat.zero_le _, ⟨rfl⟩, HKW⟩
        case round =>
          clear HKW HQ k0 k1 k2 f0 f1 f2
          obtain ⟨j, ss, rfl, hj, HE, HK⟩ := hrel
          by_cases hjl : j < x.f2.length
          rotate_left
          · have hd2 : decide (j < x.f2.length) = false := decide_eq_false hjl
            have he : saidL m x.f2 s = some ss := by rw [← HE.out, List.drop_of_length_le (by omega), saidL]
            have HE2 : Aside0 (saidA m (l.drop (i3 + 1)) ss = saidA m l []) := ⟨by rw [HST.out, he]; rfl⟩
            clear he
            go_wp2_with fail
            go_roundw
            case measure => simp [intOf]; omega
            case rel => exact ⟨i3 + 1, ss, by go_num, by omega, HE2, HK⟩
          have hd2 : decide (j < x.f2.length) = true := decide_eq_true hjl
          have hj9 : j < 1000000000000 := by omega
          obtain ⟨ad2, h, hA2, hh, p0, p1, p2⟩ := hint_at (Kd.C_below HC2.out HK.out.hb) j hjl
          subst hA2
          have hst : saidL m x.f2 s = if ((mget ss (h.f0, h.f2)).isSome && ((mget ss (h.f0, h.f2)).getD 0 != h.f1)) = true then none else if clash m h = true then none else saidL m (x.f2.drop (j + 1)) (mput ss (h.f0, h.f2) h.f1) := by
            obtain ⟨hil, e⟩ := List.getElem?_eq_some_iff.1 hh
            rw [← HE.out, List.drop_eq_getElem_cons hil, saidL_step, e]
          have HS2 := Aside0.mk hst
          clear hh hst HE
          have hu2 := Try.underlying31
          go_upto_region 26 with fail
          obtain ⟨gh, hgh⟩ : ∃ g, g = wr.heap.size := ⟨_, rfl⟩
          obtain ⟨W3, hW3⟩ : ∃ W3, W3 = wr.alloc (Obj.cells #[Value.int IntKind.i64 h.f0, Value.int IntKind.i64 h.f1, Value.int IntKind.i64 h.f2] 31) := ⟨_, rfl⟩
          rw [← hW3, ← hgh]
          have hB3 : Below wr.heap.size wr W3 := by rw [hW3]; exact below_alloc (Below.refl _ _) _
          have HH : Aside0 (W3.heap[gh]? = some (.cells #[.int .i64 h.f0, .int .i64 h.f1, .int .i64 h.f2] 31 (0, 0))) := ⟨by rw [hW3, hgh]; exact heap_alloc_new _ _⟩
          replace HK := Aside0.mk (HK.out.step hB3)
          clear hW3 hgh hB3 p0 p1 p2
          obtain ⟨q0, q1, q2, e0, e1, e2⟩ := blk3 HH.out
          have hu3 := Try.underlying119
          go_upto_region 27 with fail
          obtain ⟨gk, hgk⟩ : ∃ g, g = W3.heap.size := ⟨_, rfl⟩
          obtain ⟨W4, hW4⟩ : ∃ W4, W4 = W3.alloc (Obj.cells #[Value.int IntKind.i64 h.f0, Value.int IntKind.i64 h.f2] 119) := ⟨_, rfl⟩
          rw [← hW4, ← hgk]
          have hB4 : Below W3.heap.size W3 W4 := by rw [hW4]; exact below_alloc (Below.refl _ _) _
          have HKB : Aside0 (W4.heap[gk]? = some (.cells #[.int .i64 h.f0, .int .i64 h.f2] 119 (0, 0))) := ⟨by rw [hW4, hgk]; exact heap_alloc_new _ _⟩
          replace HH := Aside0.mk (blk_below HH.out hB4)
          replace HK := Aside0.mk (HK.out.step hB4)
          clear hW4 hgk hB4 q0 q1 q2 e0 e1 e2
          obtain ⟨q0, q1, q2, e0, e1, e2⟩ := blk3 HH.out
          obtain ⟨r0, r1⟩ := blk2 HKB.out
          have hlk := look_said HK.out.sm h.f0 h.f2
          obtain ⟨q, hq⟩ : ∃ q, q = (mget ss (h.f0, h.f2)).getD 0 := ⟨_, rfl⟩
          obtain ⟨b, hb⟩ : ∃ b, b = (mget ss (h.f0, h.f2)).isSome := ⟨_, rfl⟩
          rw [← hq, ← hb] at hlk
          replace HS2 : Aside0 (saidL m x.f2 s = if (b && (q != h.f1)) = true then none else if clash m h = true then none else saidL m (x.f2.drop (j + 1)) (mput ss (h.f0, h.f2) h.f1)) := ⟨by rw [hb, hq]; exact HS2.out⟩
          clear hq hb
          go_upto_region 28 with fail
          go_cut [132] (fun v132 wx => v132 = .bool (b && (q != h.f1)) ∧ Aside0 (Below W4.heap.size W4 wx))
          case first =>
            cases b with
            | false =>
              go_wp2_with fail
              go_meet
              case rel => exact ⟨rfl, ⟨by first | exact Below.refl _ _ | exact pw_below_drewN (Below.refl _ _) _⟩⟩
            | true =>
              obtain ⟨bb, hbb⟩ : ∃ bb, bb = (q != h.f1) := ⟨_, rfl⟩
              have hbb2 := hbb.symm
              clear hbb
              go_wp2_with fail
              go_meet
              case rel => exact ⟨by simp [hbb2], ⟨by first | exact Below.refl _ _ | exact pw_below_drewN (Below.refl _ _) _⟩⟩
          case rest =>
            obtain ⟨rfl, HB5⟩ := hcut
            obtain ⟨W5, hW5⟩ : ∃ W5, W5 = wc := ⟨_, rfl⟩
            rw [← hW5] at HB5 ⊢
            replace HH := Aside0.mk (blk_below HH.out HB5.out)
            replace HKB := Aside0.mk (blk_below HKB.out HB5.out)
            replace HK := Aside0.mk (HK.out.step HB5.out)
            clear hW5 HB5 q0 q1 q2 e0 e1 e2 r0 r1 hlk
            obtain ⟨bb, hbb⟩ : ∃ bb, bb = (b && (q != h.f1)) := ⟨_, rfl⟩
            rw [← hbb]
            replace HS2 : Aside0 (saidL m x.f2 s = if bb = true then none else if clash m h = true then none else saidL m (x.f2.drop (j + 1)) (mput ss (h.f0, h.f2) h.f1)) := ⟨by rw [hbb]; exact HS2.out⟩
            clear hbb
            cases bb with
            | true =>
              have HV : Aside0 (validF l p = false) := ⟨by
                have h2 := HST.out
                rw [HS2.out, if_pos rfl] at h2
                unfold validF
                rw [HM.out]
                show (saidA m l []).isSome = false
                rw [h2]
                rfl⟩
              go_wp2_with fail
              go_returns
              exact ⟨by rw [HV.out]; rfl, HK.out.hb⟩
            | false =>
              replace HS2 : Aside0 (saidL m x.f2 s = if clash m h = true then none else saidL m (x.f2.drop (j + 1)) (mput ss (h.f0, h.f2) h.f1)) := ⟨by rw [HS2.out, if_neg (by decide)]⟩
              obtain ⟨q0, q1, q2, e0, e1, e2⟩ := blk3 HH.out
              obtain ⟨r0, r1⟩ := blk2 HKB.out
              obtain ⟨W7, hup, hM7, hG7⟩ := run_update_any mom_enc Try.underlying117 HK.out.sm (h.f0, h.f2) (.int .i64 h.f1)
              have hup2 : (Instr.mapUpdate 117 (.map (some ms)) (.agg #[.int .i64 h.f0, .int .i64 h.f2]) (.int .i64 h.f1)).run Try.prog W5 = .ok () W7 := hup
              have HM7 := Aside0.mk hM7
              have HG7 := Aside0.mk hG7
              clear hup hM7 hG7
              have hgx := map_no_row HK.out.sm HH.out
              have HH7 := Aside0.mk (blk_grown HH.out HG7.out (fun e => hgx (Option.some.inj e)))
              have HK7 : Aside0 (VK w mb ms m (valI (mput ss (h.f0, h.f2) h.f1)) W7) := ⟨⟨HK.out.hm.move (HG7.out.block mb HK.out.hm.lt (fun e => HK.out.ne (Option.some.inj e))), by rw [valI_put]; exact HM7.out, HK.out.hb.grown HG7.out HK.out.hb.size (fun k hk => by cases hk; exact HK.out.h2), HK.out.h1, HK.out.h2, HK.out.ne⟩⟩
              clear hgx
              go_upto_region 31 with fail
              clear hup2 q0 q1 q2 e0 e1 e2 r0 r1 HH HK HM7 HG7 HKB
              obtain ⟨q0, q1, q2, e0, e1, e2⟩ := blk3 HH7.out
              have hlk := look_has2 HK7.out.hm h.f0
              obtain ⟨b, hb⟩ : ∃ b, b = (mget m h.f0).isSome := ⟨_, rfl⟩
              rw [← hb] at hlk
              have HB := Aside0.mk hb
              obtain ⟨y, hy⟩ : ∃ y, y = (mget m h.f0).getD ⟨0, 0, 0⟩ := ⟨_, rfl⟩
              rw [← hy] at hlk
              have HY := Aside0.mk hy
              clear hb hy
              go_upto_region 32 with fail
              obtain ⟨W8, hW8⟩ : ∃ W8, W8 = W7.alloc (Obj.cells #[Value.int IntKind.i64 y.f0, Value.int IntKind.i64 y.f1, Value.int IntKind.i64 y.f2] 31) := ⟨_, rfl⟩
              obtain ⟨gy, hgy⟩ : ∃ g, g = W7.heap.size := ⟨_, rfl⟩
              rw [← hW8, ← hgy]
              have hB8 : Below W7.heap.size W7 W8 := by rw [hW8]; exact below_alloc (Below.refl _ _) _
              have HYB : Aside0 (W8.heap[gy]? = some (.cells #[.int .i64 y.f0, .int .i64 y.f1, .int .i64 y.f2] 31 (0, 0))) := ⟨by rw [hW8, hgy]; exact heap_alloc_new _ _⟩
              have HH8 := Aside0.mk (blk_below HH7.out hB8)
              have HK8 := Aside0.mk (HK7.out.step hB8)
              clear hW8 hgy hB8 hlk HH7 HK7 q0 q1 q2 e0 e1 e2
              obtain ⟨q0, q1, q2, e0, e1, e2⟩ := blk3 HH8.out
              obtain ⟨y0, y1, y2, d0, d1, d2⟩ := blk3 HYB.out
              go_cut [163] (fun v163 wx => v163 = .bool (clash m h) ∧ Aside0 (Below W8.heap.size W8 wx))
              case first =>
                cases b with
                | false =>
                  have hcl : clash m h = false := clash_f HB.out.symm
                  go_wp2_with fail
                  go_meet
                  case rel => exact ⟨by rw [hcl], ⟨by first | exact Below.refl _ _ | exact pw_below_drewN (Below.refl _ _) _⟩⟩
                | true =>
                  have hcl := clash_t HB.out.symm
                  rw [← HY.out] at hcl
                  have HCL := Aside0.mk hcl
                  clear hcl
                  by_cases c1 : y.f2 < h.f2
                  · have d1 : decide (y.f2 < h.f2) = true := decide_eq_true c1
                    clear c1
                    go_wp2_with fail
                    go_meet
                    case rel => exact ⟨by rw [HCL.out, d1]; rfl, ⟨by first | exact Below.refl _ _ | exact pw_below_drewN (Below.refl _ _) _⟩⟩
                  · have d1 : decide (y.f2 < h.f2) = false := decide_eq_false c1
                    clear c1
                    by_cases c2 : y.f2 = h.f2
                    · have d2 : (y.f2 == h.f2) = true := by rw [c2]; exact beq_self_eq_true _
                      have D2 := Aside0.mk c2
                      clear c2
                      obtain ⟨b0, hb0⟩ : ∃ b0, (y.f0 == h.f0) = b0 := ⟨_, rfl⟩
                      obtain ⟨b1, hb1⟩ : ∃ b1, (y.f1 == h.f1) = b1 := ⟨_, rfl⟩
                      have HCL2 : Aside0 (clash m h = !(b0 && b1)) := ⟨by rw [HCL.out, d1, D2.out, ← hb0, ← hb1]; by_cases g0 : y.f0 = h.f0 <;> by_cases g1 : y.f1 = h.f1 <;> simp [g0, g1]⟩
                      clear HCL
                      cases b0 <;> cases b1
                      all_goals
                        go_wp2_with fail
                        go_meet
                        case rel => exact ⟨by rw [HCL2.out]; rfl, ⟨by first | exact Below.refl _ _ | exact pw_below_drewN (Below.refl _ _) _⟩⟩
                    · have d2 : (y.f2 == h.f2) = false := by rw [beq_eq_false_iff_ne]; exact c2
                      have D2 : Aside0 (decide (y.f2 = h.f2) = false) := ⟨decide_eq_false c2⟩
                      clear c2
                      go_wp2_with fail
                      go_meet
                      case rel => exact ⟨by rw [HCL.out, d1, D2.out]; rfl, ⟨by first | exact Below.refl _ _ | exact pw_below_drewN (Below.refl _ _) _⟩⟩
              case rest =>
                obtain ⟨rfl, HB9⟩ := hcut
                obtain ⟨W9, hW9⟩ : ∃ W9, W9 = wc := ⟨_, rfl⟩
                rw [← hW9] at HB9 ⊢
                have HK9 := Aside0.mk (HK8.out.step HB9.out)
                clear hW9 HB9 q0 q1 q2 e0 e1 e2 y0 y1 y2 d0 d1 d2 HK8 HH8 HYB HY HB
                obtain ⟨bb, hbb⟩ : ∃ bb, bb = clash m h := ⟨_, rfl⟩
                rw [← hbb]
                replace HS2 : Aside0 (saidL m x.f2 s = if bb = true then none else saidL m (x.f2.drop (j + 1)) (mput ss (h.f0, h.f2) h.f1)) := ⟨by rw [hbb]; exact HS2.out⟩
                clear hbb
                cases bb with
                | true =>
                  have HV : Aside0 (validF l p = false) := ⟨by
                    have h2 := HST.out
                    rw [HS2.out, if_pos rfl] at h2
                    unfold validF
                    rw [HM.out]
                    show (saidA m l []).isSome = false
                    rw [h2]
                    rfl⟩
                  go_wp2_with fail
                  go_returns
                  exact ⟨by rw [HV.out]; rfl, HK9.out.hb⟩
                | false =>
                  have HE2 : Aside0 (saidL m (x.f2.drop (j + 1)) (mput ss (h.f0, h.f2) h.f1) = saidL m x.f2 s) := ⟨by rw [HS2.out, if_neg (by decide)]⟩
                  clear HS2
                  go_wp2_with fail
                  go_roundw
                  case measure => simp [intOf]; omega
                  case rel => exact ⟨j + 1, mput ss (h.f0, h.f2) h.f1, by go_num, by omega, HE2, HK9⟩
    have hd : decide (i < l.length) = true := decide_eq_true hlt
    obtain ⟨ad, x, A1, c1, A2, c2, rfl, hx, r0, r1, r2, hc1, hC1, hc2, hC2⟩ := post_at HR.out i hlt
    have p0 := (HK.out.hb.cell (World.block_lt_of_cell? w _ r0)).trans r0
    have p1 := (HK.out.hb.cell (World.block_lt_of_cell? w _ r1)).trans r1
    have p2 := (HK.out.hb.cell (World.block_lt_of_cell? w _ r2)).trans r2
    have HC1 := Aside0.mk hC1
    have HC2 := Aside0.mk hC2
    have hst : hasA p (i : Int) (l.drop i) m = if postOk p x = true then (hasL (i : Int) x.f2 x.f1 m).bind (hasA p ((i + 1 : Nat) : Int) (l.drop (i + 1))) else none := by
      obtain ⟨hil, e⟩ := List.getElem?_eq_some_iff.1 hx
      rw [List.drop_eq_getElem_cons hil, hasA, e]
      rfl
    rw [HE.out] at hst
    have HST := Aside0.mk hst
    have HSX := Aside0.mk (HS.out.2 x (List.mem_of_getElem? hx))
    clear hx hC1 hC2 hst HE r0 r1 r2
    have hu := Try.underlying81
    go_upto_region 6 with fail
    obtain ⟨gx, hgx⟩ : ∃ g, g = wr.heap.size := ⟨_, rfl⟩
    obtain ⟨W, hW⟩ : ∃ W, W = wr.alloc (Obj.cells #[Value.bool x.f0, Value.slice A1 x.f1.length c1, Value.slice A2 x.f2.length c2] 81) := ⟨_, rfl⟩
    rw [← hW, ← hgx]
    have hBW : Below wr.heap.size wr W := by rw [hW]; exact below_alloc (Below.refl _ _) _
    have HQ : Aside0 (W.heap[gx]? = some (.cells #[.bool x.f0, .slice A1 x.f1.length c1, .slice A2 x.f2.length c2] 81 (0, 0))) := ⟨by rw [hW, hgx]; exact heap_alloc_new _ _⟩
    have HKW := Aside0.mk (HK.out.step hBW)
    clear hW hgx hBW HK p0 p1 p2
    go_cut [64] (fun v64 wx => v64 = .bool (!postOk p x) ∧ Aside0 (VK w mb ms m [] wx) ∧ Aside0 (wx.heap[gx]? = some (.cells #[.bool x.f0, .slice A1 x.f1.length c1, .slice A2 x.f2.length c2] 81 (0, 0))) ∧ Aside0 (Below W.heap.size W wx))
    case first =>
      obtain ⟨k0, k1, k2, f0, f1, f2⟩ := blk3 HQ.out
      go_wp2_with fail
      refine (listed_any A1 x.f1.length c1 x.f1 p W rfl (Kd.C_below HC1.out HKW.out.hb) hc1 HSX.out.1).mono ?_
      rintro e w2 ⟨rfl, hB⟩
      have HQ2 := Aside0.mk (blk_below HQ.out hB)
      have HK2 := Aside0.mk (HKW.out.step hB)
      have HB2 := Aside0.mk hB
      clear hB
      obtain ⟨q0, q1, q2, e0, e1, e2⟩ := blk3 HQ2.out
      by_cases hl1 : listF x.f1 p = true
      rotate_left
      · have hl1f : listF x.f1 p = false := by simpa using hl1
        rw [hl1f]
        have HP : Aside0 (postOk p x = false) := ⟨by unfold postOk; rw [hl1f]; rfl⟩
        clear hl1 hl1f
        go_wp2_with fail
        go_meet
        case rel => exact ⟨by rw [HP.out]; rfl, HK2, HQ2, HB2⟩
      rw [hl1]
      go_wp2_with fail
      refine (listed_any A2 x.f2.length c2 x.f2 p w2 rfl (Kd.C_below HC2.out HK2.out.hb) hc2 HSX.out.2).mono ?_
      rintro e w3 ⟨rfl, hB⟩
      have HQ3 := Aside0.mk (blk_below HQ2.out hB)
      have HK3 := Aside0.mk (HK2.out.step hB)
      have HB3 : Aside0 (Below W.heap.size W w3) := ⟨HB2.out.trans (hB.mono HB2.out.size)⟩
      clear hB q0 q1 q2 e0 e1 e2
      obtain ⟨q0, q1, q2, e0, e1, e2⟩ := blk3 HQ3.out
      by_cases hl2 : listF x.f2 p = true
      rotate_left
      · have hl2f : listF x.f2 p = false := by simpa using hl2
        rw [hl2f]
        have HP : Aside0 (postOk p x = false) := ⟨by unfold postOk; rw [hl1, hl2f]; rfl⟩
        clear hl1 hl2 hl2f
        go_wp2_with fail
        go_meet
        case rel => exact ⟨by rw [HP.out]; rfl, HK3, HQ3, HB3⟩
      rw [hl2]
      obtain ⟨up, hup⟩ : ∃ up, up = x.f0 := ⟨_, rfl⟩
      rw [← hup] at q0
      have HUP := Aside0.mk hup
      clear hup
      cases up with
      | true =>
        have HP : Aside0 (postOk p x = true) := ⟨by unfold postOk; rw [hl1, hl2, ← HUP.out]; rfl⟩
        clear hl1 hl2
        go_wp2_with fail
        go_meet
        case rel => exact ⟨by rw [HP.out]; rfl, HK3, HQ3, HB3⟩
      | false =>
        have hn1 : x.f1.length ≤ 1000000000000 := HSX.out.1
        have hn2 : x.f2.length ≤ 1000000000000 := HSX.out.2
        by_cases hz : x.f1.length + x.f2.length = 0
        · have HP : Aside0 (postOk p x = true) := ⟨by unfold postOk; rw [hl1, hl2, ← HUP.out, decide_eq_true hz]; rfl⟩
          have dz : decide ((0 : Int) < (x.f1.length : Int) + (x.f2.length : Int)) = false := decide_eq_false (by omega)
          clear hl1 hl2 hz
          go_wp2_with fail
          go_meet
          case rel => exact ⟨by rw [HP.out]; rfl, HK3, HQ3, HB3⟩
        · have HP : Aside0 (postOk p x = false) := ⟨by unfold postOk; rw [hl1, hl2, ← HUP.out, decide_eq_false hz]; rfl⟩
          have dz : decide ((0 : Int) < (x.f1.length : Int) + (x.f2.length : Int)) = true := decide_eq_true (by omega)
          clear hl1 hl2 hz
          go_wp2_with fail
          go_meet
          case rel => exact ⟨by rw [HP.out]; rfl, HK3, HQ3, HB3⟩
    case rest =>
      obtain ⟨rfl, HK2, HQ2, HB2⟩ := hcut
      obtain ⟨W2, hW2⟩ : ∃ W2, W2 = wc := ⟨_, rfl⟩
      rw [← hW2] at HK2 HQ2 HB2 ⊢
      clear hW2 HKW HQ HB2
      by_cases hp : postOk p x = true
      rotate_left
      · have hpf : postOk p x = false := by simpa using hp
        rw [hpf]
        have HV : Aside0 (validF l p = false) := ⟨by unfold validF; rw [HST.out, if_neg hp]⟩
        clear hp hpf
        go_wp2_with fail
        go_returns
        exact ⟨by rw [HV.out]; rfl, HK2.out.hb⟩
      rw [hp, show (!true) = false from rfl]
      have HST2 : Aside0 (hasA p 0 l [] = (hasL (i : Int) x.f2 x.f1 m).bind (hasA p ((i + 1 : Nat) : Int) (l.drop (i + 1)))) := ⟨by rw [HST.out, if_pos hp]⟩
      clear hp HST
      have HG2 : Aside0 (gx < W2.heap.size) := ⟨blk_lt HQ2.out⟩
      obtain ⟨k0, k1, k2, f0, f1, f2⟩ := blk3 HQ2.out
      go_wp2_with fail
      go_loopw [69] (fun u69 wq => V2Rel w mb ms gx i x A1 c1 A2 c2 m u69 wq) (fun u69 _ => x.f1.length - (intOf u69).toNat)
      case atStart => exact ⟨0, m, rfl, Nat.zero_le _, ⟨rfl⟩, HK2, HQ2⟩
      case round =>
        clear HK2 HQ2 k0 k1 k2 f0 f1 f2
        obtain ⟨j, mm, rfl, hj, HE, HK, HQ⟩ := hrel
        by_cases hjl : j < x.f1.length
        rotate_left
        · have hd2 : decide (j < x.f1.length) = false := decide_eq_false hjl
          have he : hasL (i : Int) x.f2 x.f1 m = some mm := by rw [← HE.out, List.drop_of_length_le (by omega), hasL]
          have HE2 : Aside0 (hasA p ((i + 1 : Nat) : Int) (l.drop (i + 1)) mm = hasA p 0 l []) := ⟨by rw [HST2.out, he]; rfl⟩
          clear he
          go_wp2_with fail
          go_roundw
          case measure => simp [intOf]; omega
          case rel => exact ⟨i + 1, mm, by go_num, by omega, HE2, HK⟩
        have hd2 : decide (j < x.f1.length) = true := decide_eq_true hjl
        have hj9 : j < 1000000000000 := by have := HSX.out.1; omega
        obtain ⟨ad1, h, hA1, hh, p0, p1, p2⟩ := hint_at (Kd.C_below HC1.out HK.out.hb) j hjl
        subst hA1
        have hst : hasL (i : Int) x.f2 x.f1 m = if (mget mm h.f0).isSome = true ∨ h.f1 ≠ (i : Int) then none else if atB x.f2 h.f0 = true then none else hasL (i : Int) x.f2 (x.f1.drop (j + 1)) (mput mm h.f0 h) := by
          obtain ⟨hil, e⟩ := List.getElem?_eq_some_iff.1 hh
          rw [← HE.out, List.drop_eq_getElem_cons hil, hasL, e]
        have HS2 := Aside0.mk hst
        clear hh hst HE
        have hu2 := Try.underlying31
        go_upto_region 11 with fail
        obtain ⟨gh, hgh⟩ : ∃ g, g = wr.heap.size := ⟨_, rfl⟩
        obtain ⟨W3, hW3⟩ : ∃ W3, W3 = wr.alloc (Obj.cells #[Value.int IntKind.i64 h.f0, Value.int IntKind.i64 h.f1, Value.int IntKind.i64 h.f2] 31) := ⟨_, rfl⟩
        rw [← hW3, ← hgh]
        have hB3 : Below wr.heap.size wr W3 := by rw [hW3]; exact below_alloc (Below.refl _ _) _
        have HH : Aside0 (W3.heap[gh]? = some (.cells #[.int .i64 h.f0, .int .i64 h.f1, .int .i64 h.f2] 31 (0, 0))) := ⟨by rw [hW3, hgh]; exact heap_alloc_new _ _⟩
        replace HQ := Aside0.mk (blk_below HQ.out hB3)
        replace HK := Aside0.mk (HK.out.step hB3)
        clear hW3 hgh hB3 p0 p1 p2
        have hlk := look_has HK.out.hm h.f0
        obtain ⟨q0, q1, q2, e0, e1, e2⟩ := blk3 HH.out
        cases hg : mget mm h.f0 with
        | some y =>
          rw [hg] at hlk
          have hlk2 : (Instr.lookup 116 (.map (some mb)) (.int .i64 h.f0) true).run Try.prog W3 = .ok (.tuple #[.agg #[.int .i64 y.f0, .int .i64 y.f1, .int .i64 y.f2], .bool true]) W3 := hlk
          have HV : Aside0 (validF l p = false) := ⟨by
            have h2 := HS2.out
            rw [hg, if_pos (Or.inl (show (some y).isSome = true from rfl))] at h2
            unfold validF
            rw [HST2.out, h2]
            rfl⟩
          clear hlk hg
          go_wp2_with fail
          go_returns
          exact ⟨by rw [HV.out]; rfl, below_alloc HK.out.hb _⟩
        | none =>
          rw [hg] at hlk
          have hlk2 : (Instr.lookup 116 (.map (some mb)) (.int .i64 h.f0) true).run Try.prog W3 = .ok (.tuple #[.agg #[.int .i64 0, .int .i64 0, .int .i64 0], .bool false]) W3 := hlk
          have HG := Aside0.mk hg
          clear hlk hg
          go_upto_region 12 with fail
          obtain ⟨W4, hW4⟩ : ∃ W4, W4 = W3.alloc (Obj.cells #[Value.int IntKind.i64 0, Value.int IntKind.i64 0, Value.int IntKind.i64 0] 31) := ⟨_, rfl⟩
          rw [← hW4]
          have hB4 : Below W3.heap.size W3 W4 := by rw [hW4]; exact below_alloc (Below.refl _ _) _
          replace HH := Aside0.mk (blk_below HH.out hB4)
          replace HQ := Aside0.mk (blk_below HQ.out hB4)
          replace HK := Aside0.mk (HK.out.step hB4)
          clear hW4 hB4 hlk2 q0 q1 q2 e0 e1 e2
          obtain ⟨q0, q1, q2, e0, e1, e2⟩ := blk3 HH.out
          obtain ⟨k0, k1, k2, f0, f1, f2⟩ := blk3 HQ.out
          by_cases hpl : h.f1 = (i : Int)
          rotate_left
          · have dpl : (h.f1 != (i : Int)) = true := by rw [bne_iff_ne]; exact hpl
            have HV : Aside0 (validF l p = false) := ⟨by
              have h2 := HS2.out
              rw [if_pos (Or.inr hpl)] at h2
              unfold validF
              rw [HST2.out, h2]
              rfl⟩
            clear hpl
            go_wp2_with fail
            go_returns
            exact ⟨by rw [HV.out]; rfl, HK.out.hb⟩
          have dpl : (h.f1 != (i : Int)) = false := by rw [bne_eq_false_iff_eq]; exact hpl
          have HPL := Aside0.mk hpl
          clear hpl
          go_wp2_with fail
          refine (hint_any x.f0 (some ad1) x.f1.length c1 A2 x.f2.length c2 x.f2 h.f0 W4 rfl (Kd.C_below HC2.out HK.out.hb) hc2 HSX.out.2).mono ?_
          rintro e W5 ⟨rfl, hB⟩
          replace HH := Aside0.mk (blk_below HH.out hB)
          replace HQ := Aside0.mk (blk_below HQ.out hB)
          replace HK := Aside0.mk (HK.out.step hB)
          clear hB q0 q1 q2 e0 e1 e2 k0 k1 k2 f0 f1 f2 dpl
          obtain ⟨y, hy⟩ : ∃ y, y = lookL x.f2 h.f0 := ⟨_, rfl⟩
          rw [← hy]
          clear hy
          unfold hintV
          by_cases hb : atB x.f2 h.f0 = true
          · rw [hb]
            have HV : Aside0 (validF l p = false) := ⟨by
              have h2 := HS2.out
              rw [HG.out, if_neg (by rw [HPL.out]; simp), if_pos hb] at h2
              unfold validF
              rw [HST2.out, h2]
              rfl⟩
            clear hb
            go_wp2_with fail
            go_returns
            exact ⟨by rw [HV.out]; rfl, below_alloc HK.out.hb _⟩
          · have hbf : atB x.f2 h.f0 = false := by simpa using hb
            rw [hbf]
            have HE2 : Aside0 (hasL (i : Int) x.f2 (x.f1.drop (j + 1)) (mput mm h.f0 h) = hasL (i : Int) x.f2 x.f1 m) := ⟨by
              have h2 := HS2.out
              rw [HG.out, if_neg (by rw [HPL.out]; simp), if_neg hb] at h2
              exact h2.symm⟩
            clear hb hbf
            go_upto_region 15 with fail
            obtain ⟨W6, hW6⟩ : ∃ W6, W6 = W5.alloc (Obj.cells #[Value.int IntKind.i64 y.f0, Value.int IntKind.i64 y.f1, Value.int IntKind.i64 y.f2] 31) := ⟨_, rfl⟩
            rw [← hW6]
            have hB6 : Below W5.heap.size W5 W6 := by rw [hW6]; exact below_alloc (Below.refl _ _) _
            replace HH := Aside0.mk (blk_below HH.out hB6)
            replace HQ := Aside0.mk (blk_below HQ.out hB6)
            replace HK := Aside0.mk (HK.out.step hB6)
            clear hW6 hB6
            obtain ⟨q0, q1, q2, e0, e1, e2⟩ := blk3 HH.out
            obtain ⟨W7, hup, hM7, hG7⟩ := run_mapUpdate (kInt_enc Try.underlying3) Try.underlying116 HK.out.hm h.f0 (hintV h)
            have hup2 : (Instr.mapUpdate 116 (.map (some mb)) (.int .i64 h.f0) (.agg #[.int .i64 h.f0, .int .i64 h.f1, .int .i64 h.f2])).run Try.prog W6 = .ok () W7 := hup
            have HM7 := Aside0.mk hM7
            have HG7 := Aside0.mk hG7
            clear hup hM7 hG7
            have hgx := map_no_row HK.out.hm HQ.out
            have HQ7 := Aside0.mk (blk_grown HQ.out HG7.out (fun e => hgx (Option.some.inj e)))
            have HK7 : Aside0 (VK w mb ms (mput mm h.f0 h) [] W7) := ⟨⟨by rw [valH_put]; exact HM7.out, HK.out.sm.move (HG7.out.block ms HK.out.sm.lt (fun e => HK.out.ne (Option.some.inj e).symm)), HK.out.hb.grown HG7.out HK.out.hb.size (fun k hk => by cases hk; exact HK.out.h1), HK.out.h1, HK.out.h2, HK.out.ne⟩⟩
            clear hgx
            go_wp2_with fail
            go_roundw
            case measure => simp [intOf]; omega
            case rel =>
              exact ⟨j + 1, mput mm h.f0 h, by go_num, by omega, HE2, HK7, HQ7⟩
end Go.Proofs.Ytjnceoohlcchnaa.Print

/-! Whether a map is right, and what functions are given. -/
namespace Go.Proofs.Ytjnceoohlcchnaa.Print
open Go Go.RowKit Go.Deep Go.Proofs.YtjnceoohlcchnaaW.PrintWords Go.Proofs.YtjnceoohlcchnaaW.PrintLast Go.Proofs.YtjnceoohlcchnaaW.PrintMore

def checkF (l : List S36) : Bool := decide (1 ≤ l.length) && decide (l.length ≤ 16) && validF l l.length
def checkC (l : List S36) : Int := if checkF l = true then 0 else 170
set_option maxRecDepth 100000 in
theorem check_any (A : Option Addr) (n c : Nat) (l : List S36) (w : World) (hn : n = l.length) (hr : Kd.C k36 w A l.length l) (hc : n ≤ c) (hl : Short l) :
    Calls Try.prog 14 #[.slice A n c] w fun e w' => e = .returned (.int .i64 (checkC l)) ∧ Below w.heap.size w w' := by
  subst hn
  have HR := Aside0.mk hr
  have HS := Aside0.mk hl
  have hl6 := hl.1
  clear hr hl
  by_cases h1 : 1 ≤ l.length
  rotate_left
  · have HV : Aside0 (checkC l = 170) := ⟨by unfold checkC checkF; rw [decide_eq_false h1]; rfl⟩
    have d1 : decide ((l.length : Int) < 1) = true := decide_eq_true (by omega)
    go_enter Try.func14, Try.ntmps14
    go_wp2_with fail
    go_returns
    exact ⟨by rw [HV.out]; rfl, Below.refl _ _⟩
  have d1 : decide ((l.length : Int) < 1) = false := decide_eq_false (by omega)
  by_cases h2 : l.length ≤ 16
  rotate_left
  · have HV : Aside0 (checkC l = 170) := ⟨by unfold checkC checkF; rw [decide_eq_false h2, Bool.and_false]; rfl⟩
    have d2 : decide ((16 : Int) < (l.length : Int)) = true := decide_eq_true (by omega)
    go_enter Try.func14, Try.ntmps14
    go_wp2_with fail
    go_returns
    exact ⟨by rw [HV.out]; rfl, Below.refl _ _⟩
  have d2 : decide ((16 : Int) < (l.length : Int)) = false := decide_eq_false (by omega)
  have HV : Aside0 (checkC l = if validF l l.length = true then 0 else 170) := ⟨by unfold checkC checkF; rw [decide_eq_true h1, decide_eq_true h2]; rfl⟩
  clear h1 h2
  go_enter Try.func14, Try.ntmps14
  go_wp2_with fail
  refine (open_any A c l w HR.out hc HS.out).mono ?_
  rintro e w1 ⟨v, rfl, hM, hB⟩
  obtain ⟨B, d, rfl, hcd, hC⟩ := Kd.R_reads hM
  have HC := Aside0.mk hC
  have HB := Aside0.mk hB
  clear hM hB hC
  go_wp2_with fail
  refine (valid_any B l.length d l l.length w1 rfl HC.out hcd HS.out).mono ?_
  rintro e w2 ⟨rfl, hB⟩
  have HB2 : Aside0 (Below w.heap.size w w2) := ⟨HB.out.trans (hB.mono HB.out.size)⟩
  clear hB
  obtain ⟨b, hb⟩ : ∃ b, b = validF l l.length := ⟨_, rfl⟩
  rw [← hb]
  rw [← hb] at HV
  clear hb
  cases b with
  | true =>
    go_wp2_with fail
    go_returns
    exact ⟨by rw [HV.out]; rfl, HB2.out⟩
  | false =>
    go_wp2_with fail
    go_returns
    exact ⟨by rw [HV.out]; rfl, HB2.out⟩
def givenC (l : List S36) (ok : Bool) (ps : List Int) : Int := if checkF l = true then (if (!ok || ps.any (offP l.length)) = true then 1 else 0) else 170
set_option maxRecDepth 100000 in
theorem given_any (A : Option Addr) (n c : Nat) (l : List S36) (ok : Bool) (Q : Option Addr) (m d : Nat) (ps : List Int) (w : World) (hn : n = l.length) (hr : Kd.C k36 w A l.length l) (hc : n ≤ c) (hl : Short l)
    (hm : m = ps.length) (hq : Kd.C (Kd.int .i64) w Q ps.length ps) (hd : m ≤ d) (hps : ps.length ≤ 1000000) :
    Calls Try.prog 57 #[.slice A n c, .bool ok, .slice Q m d] w fun e w' => ∃ v, e = .returned (.tuple #[v, .int .i64 (givenC l ok ps)]) ∧ Below w.heap.size w w' ∧ (givenC l ok ps = 0 → Kd.R k36 81 w' w.heap.size (fun _ => True) v l) ∧ (givenC l ok ps ≠ 0 → v = .slice none 0 0) := by
  subst hn hm
  have HR := Aside0.mk hr
  have HS := Aside0.mk hl
  have HQ := Aside0.mk hq
  have hl6 := hl.1
  clear hr hl hq
  go_enter Try.func57, Try.ntmps57
  go_upto_region 1 with fail
  obtain ⟨g, hg⟩ : ∃ g, g = w.heap.size := ⟨_, rfl⟩
  obtain ⟨w1, hw1⟩ : ∃ w1, w1 = w.alloc (Obj.cells #[Value.slice A l.length c] 22) := ⟨_, rfl⟩
  rw [← hw1, ← hg]
  have HB1 : Aside0 (Below w.heap.size w w1) := ⟨by rw [hw1]; exact below_alloc (Below.refl _ _) _⟩
  have HG1 : Aside0 (w1.heap[g]? = some (.cells #[.slice A l.length c] 22 (0, 0))) := ⟨by rw [hw1, hg]; exact heap_alloc_new _ _⟩
  have k0 : w1.cell? ⟨g, 0, none⟩ = some (.slice A l.length c) := by have h := blk_cell HG1.out 0; simpa using h
  clear hw1 hg
  go_wp2_with fail
  refine (check_any A l.length c l w1 rfl (Kd.C_below HR.out HB1.out) hc HS.out).mono ?_
  rintro e w2 ⟨rfl, hB⟩
  have HB2 : Aside0 (Below w.heap.size w w2) := ⟨HB1.out.trans (hB.mono HB1.out.size)⟩
  have HG2 := Aside0.mk (blk_below HG1.out hB)
  have k2 : w2.cell? ⟨g, 0, none⟩ = some (.slice A l.length c) := by have h := blk_cell HG2.out 0; simpa using h
  clear hB k0
  by_cases hch : checkF l = true
  rotate_left
  · have he : checkC l = 170 := by unfold checkC; rw [if_neg hch]
    have HV : Aside0 (givenC l ok ps = 170) := ⟨by unfold givenC; rw [if_neg hch]⟩
    rw [he]
    clear he hch
    go_wp2_with fail
    go_returns
    exact ⟨.slice none 0 0, by rw [HV.out]; rfl, HB2.out, fun h => by rw [HV.out] at h; omega, fun _ => rfl⟩
  have he : checkC l = 0 := by unfold checkC; rw [if_pos hch]
  rw [he]
  have HV : Aside0 (givenC l ok ps = if (!ok || ps.any (offP l.length)) = true then 1 else 0) := ⟨by unfold givenC; rw [if_pos hch]⟩
  clear he hch
  cases ok with
  | false =>
    go_wp2_with fail
    go_returns
    exact ⟨.slice none 0 0, by rw [HV.out]; rfl, HB2.out, fun h => by rw [HV.out] at h; simp at h, fun _ => rfl⟩
  | true =>
    go_wp2_with fail
    refine (contains_ints Q d ps A l.length c g w2 k2 (Kd.C_below HQ.out HB2.out) hd hps).mono ?_
    rintro e w3 ⟨rfl, hB⟩
    have HB3 : Aside0 (Below w.heap.size w w3) := ⟨HB2.out.trans (hB.mono HB2.out.size)⟩
    have HG3 := Aside0.mk (blk_below HG2.out hB)
    have k3 : w3.cell? ⟨g, 0, none⟩ = some (.slice A l.length c) := by have h := blk_cell HG3.out 0; simpa using h
    clear hB k2
    obtain ⟨b, hb⟩ : ∃ b, b = ps.any (offP l.length) := ⟨_, rfl⟩
    rw [← hb]
    rw [← hb] at HV
    clear hb
    cases b with
    | true =>
      go_wp2_with fail
      go_returns
      exact ⟨.slice none 0 0, by rw [HV.out]; rfl, HB3.out, fun h => by rw [HV.out] at h; simp at h, fun _ => rfl⟩
    | false =>
      go_wp2_with fail
      refine (open_any A c l w3 (Kd.C_below HR.out HB3.out) hc HS.out).mono ?_
      rintro e w4 ⟨v, rfl, hM, hB⟩
      have HM := Aside0.mk (Kd.R_lower hM HB3.out.size)
      have HB4 : Aside0 (Below w.heap.size w w4) := ⟨HB3.out.trans (hB.mono HB3.out.size)⟩
      clear hM hB k3
      go_wp2_with fail
      go_returns
      exact ⟨v, by rw [HV.out]; rfl, HB4.out, fun _ => HM.out, fun h => absurd (by rw [HV.out]; rfl) h⟩
end Go.Proofs.Ytjnceoohlcchnaa.Print

/-! A map of one's own: its cells, and what a store into one of its places makes of it. -/
namespace Go.Proofs.Ytjnceoohlcchnaa.Print
open Go Go.RowKit Go.Deep Go.Proofs.YtjnceoohlcchnaaW.PrintWords Go.Proofs.YtjnceoohlcchnaaW.PrintLast Go.Proofs.YtjnceoohlcchnaaW.PrintMore

/-- a map of one's own -/
def Own (w : World) (base g cap : Nat) (l : List S36) : Prop := Kd.R k36 81 w base (fun _ => True) (.slice (some ⟨g, 0, none⟩) l.length cap) l
theorem own_of {w : World} {base : Nat} {v : Value} {l : List S36} (h : Kd.R k36 81 w base (fun _ => True) v l) (hl : 0 < l.length) : ∃ g cap, v = .slice (some ⟨g, 0, none⟩) l.length cap ∧ Own w base g cap l ∧ l.length ≤ cap ∧ base ≤ g ∧ g < w.heap.size := by
  obtain ⟨A, c, rfl, hc, hC⟩ := Kd.R_reads h
  obtain ⟨ad, rfl, _⟩ := hC.2.2 hl
  obtain ⟨g, rfl⟩ := Kd.R_head h
  exact ⟨g, c, rfl, h, hc, Kd.R_base h g (by simp [Value.ownBlock]), Kd.R_lt h g (by simp [Value.ownBlock])⟩
theorem Own.C {w : World} {base g cap : Nat} {l : List S36} (h : Own w base g cap l) : Kd.C k36 w (some ⟨g, 0, none⟩) l.length l := (Kd.R_reads' h).2.2
theorem Own.below {w w2 : World} {base g cap : Nat} {l : List S36} (h : Own w base g cap l) (hB : Below w.heap.size w w2) : Own w2 base g cap l := Kd.R_below h hB
theorem Own.cells {w : World} {base g cap : Nat} {l : List S36} (h : Own w base g cap l) {i : Nat} {x : S36} (hx : l[i]? = some x) :
    ∃ A1 c1 A2 c2, w.cell? ⟨g, i * 3, none⟩ = some (.bool x.f0) ∧ w.cell? ⟨g, i * 3 + 1, none⟩ = some (.slice A1 x.f1.length c1) ∧ w.cell? ⟨g, i * 3 + 2, none⟩ = some (.slice A2 x.f2.length c2) ∧
      w.frozen? ⟨g, i * 3, none⟩ = false ∧ w.frozen? ⟨g, i * 3 + 1, none⟩ = false ∧ w.frozen? ⟨g, i * 3 + 2, none⟩ = false ∧
      Kd.R k31 31 w base (fun k => True ∧ k ≠ g) (.slice A1 x.f1.length c1) x.f1 ∧ Kd.R k31 31 w base (fun k => True ∧ k ≠ g) (.slice A2 x.f2.length c2) x.f2 ∧ x.f1.length ≤ c1 ∧ x.f2.length ≤ c2 := by
  obtain ⟨hi, e⟩ := List.getElem?_eq_some_iff.1 hx
  obtain ⟨c, hcl, hM, hcc, hf⟩ := Kd.R_elem h (⟨false, [], []⟩ : S36) (i : Int) (by omega) (by omega)
  have hg : l.getD ((i : Int).toNat) ⟨false, [], []⟩ = x := by
    rw [List.getD_eq_getElem?_getD, Int.toNat_natCast, hx]; rfl
  rw [hg] at hM
  obtain ⟨v1, v2, rfl, r1, r2⟩ := k36_openM hM
  obtain ⟨A1, c1, rfl, h1, _⟩ := Kd.R_reads r1
  obtain ⟨A2, c2, rfl, h2, _⟩ := Kd.R_reads r2
  rw [Int.toNat_natCast] at hcc hf
  exact ⟨A1, c1, A2, c2, hcc 0 _ rfl, hcc 1 _ rfl, hcc 2 _ rfl, hf 0, hf 1, hf 2, r1, r2, h1, h2⟩
theorem Own.put {w : World} {base g cap : Nat} {l : List S36} (h : Own w base g cap l) {i : Nat} {x y : S36} (hx : l[i]? = some x) {j : Nat} {seg : List Value} {a b c : Value}
    (hc0 : w.cell? ⟨g, i * 3, none⟩ = some a) (hc1 : w.cell? ⟨g, i * 3 + 1, none⟩ = some b) (hc2 : w.cell? ⟨g, i * 3 + 2, none⟩ = some c) {v1 v2 : Value} (hs : [a, b, c].take j ++ seg ++ [a, b, c].drop (j + seg.length) = [.bool y.f0, v1, v2]) (hj : j + seg.length ≤ 3)
    (h1 : Kd.R k31 31 w base (fun k => True ∧ k ≠ g) v1 y.f1) (h2 : Kd.R k31 31 w base (fun k => True ∧ k ≠ g) v2 y.f2) : Own (w.setCells g (i * 3 + j) seg) base g cap (l.set i y) := by
  obtain ⟨hi, e⟩ := List.getElem?_eq_some_iff.1 hx
  have hr := (Kd.R_seg h (i : Int) (by omega) (by omega) (c := [a, b, c]) (seg := seg) (j := j) rfl (fun j u hu => by
    rw [Int.toNat_natCast]
    match j, hu with
    | 0, hu => cases hu; exact hc0
    | 1, hu => cases hu; exact hc1
    | 2, hu => cases hu; exact hc2) hj (x' := y) (okp := fun k => True ∧ k ≠ g) (by rw [hs]; exact k36_mkM _ _ _ y h1 h2) (fun k hk => ⟨trivial, hk.2⟩)).1
  rw [Int.toNat_natCast] at hr
  unfold Own
  rw [List.length_set]
  exact hr
theorem Own.not_g {w : World} {base g cap : Nat} {l : List S36} (h : Own w base g cap l) {b2 : Nat} {ok : Nat → Prop} {v : Value} {xs : List S31} (hv : Kd.R k31 31 w b2 ok v xs) : Kd.R k31 31 w b2 (fun k => True ∧ k ≠ g) v xs := by
  obtain ⟨cs, hc⟩ := Kd.R_typed h g (by simp [Value.ownBlock])
  exact Kd.R_mono (Kd.R_types hv hc (by decide)) (fun k hk => ⟨trivial, hk.2⟩)
/-- another list for what is there -/
theorem Own.put1 {w : World} {base g cap : Nat} {l : List S36} (h : Own w base g cap l) {i : Nat} {x : S36} (hx : l[i]? = some x) {b2 : Nat} {ok : Nat → Prop} {v : Value} {xs : List S31} (hb : base ≤ b2)
    (hv : Kd.R k31 31 w b2 ok v xs) : Own (w.setCell ⟨g, i * 3 + 1, none⟩ v) base g cap (l.set i ⟨x.f0, xs, x.f2⟩) := by
  obtain ⟨A1, c1, A2, c2, q0, q1, q2, _, _, _, r1, r2, _, _⟩ := h.cells hx
  have hr := h.put hx (y := ⟨x.f0, xs, x.f2⟩) (j := 1) (seg := [v]) q0 q1 q2 rfl (by simp) (Kd.R_lower (h.not_g hv) hb) r2
  simpa [World.setCells] using hr
/-- another list of hints -/
theorem Own.put2 {w : World} {base g cap : Nat} {l : List S36} (h : Own w base g cap l) {i : Nat} {x : S36} (hx : l[i]? = some x) {b2 : Nat} {ok : Nat → Prop} {v : Value} {xs : List S31} (hb : base ≤ b2)
    (hv : Kd.R k31 31 w b2 ok v xs) : Own (w.setCell ⟨g, i * 3 + 2, none⟩ v) base g cap (l.set i ⟨x.f0, x.f1, xs⟩) := by
  obtain ⟨A1, c1, A2, c2, q0, q1, q2, _, _, _, r1, r2, _, _⟩ := h.cells hx
  have hr := h.put hx (y := ⟨x.f0, x.f1, xs⟩) (j := 2) (seg := [v]) q0 q1 q2 rfl (by simp) r1 (Kd.R_lower (h.not_g hv) hb)
  simpa [World.setCells] using hr
theorem one_ints (w : World) (p : Int) {g : Nat} (h : w.heap[g]? = some (.cells #[.int .i64 p] 3 (0, 0))) : Kd.C (Kd.int .i64) w (some ⟨g, 0, none⟩) 1 [p] := by
  refine ⟨rfl, by omega, fun _ => ⟨_, rfl, fun j x hj => ?_⟩⟩
  match j, hj with
  | 0, hj =>
    cases hj
    refine ⟨[.int .i64 p], rfl, rfl, fun k u hk => ?_⟩
    match k, hk with
    | 0, hk =>
      cases hk
      have h0 := blk_cell h 0
      simpa [Addr.add] using h0
end Go.Proofs.Ytjnceoohlcchnaa.Print

/-! Forgetting, looking, where something is. -/
namespace Go.Proofs.Ytjnceoohlcchnaa.Print
open Go Go.RowKit Go.Deep Go.Proofs.YtjnceoohlcchnaaW.PrintWords Go.Proofs.YtjnceoohlcchnaaW.PrintLast Go.Proofs.YtjnceoohlcchnaaW.PrintMore

def postA (l : List S36) (i : Int) : S36 := l.getD i.toNat ⟨false, [], []⟩
theorem given_in {l : List S36} {ok : Bool} {p : Int} (h : givenC l ok [p] = 0) : ok = true ∧ checkF l = true ∧ 0 ≤ p ∧ p < l.length := by
  unfold givenC at h
  by_cases hc : checkF l = true
  · rw [if_pos hc] at h
    by_cases hk : (!ok || [p].any (offP l.length)) = true
    · rw [if_pos hk] at h; omega
    · cases ok
      · exact absurd rfl hk
      · simp [offP] at hk
        exact ⟨rfl, hc, by omega, by omega⟩
  · rw [if_neg hc] at h; omega
theorem given_post {l : List S36} {ok : Bool} {p : Int} (h : givenC l ok [p] = 0) : ∃ i : Nat, p = (i : Int) ∧ i < l.length ∧ l[i]? = some (postA l p) := by
  obtain ⟨_, _, h0, h1⟩ := given_in h
  refine ⟨p.toNat, by omega, by omega, ?_⟩
  unfold postA
  rw [List.getD_eq_getElem?_getD, List.getElem?_eq_getElem (by omega)]
  rfl
def forgetF (l : List S36) (place oid : Int) : List S36 × Int :=
  if givenC l (decide (1 ≤ oid)) [place] = 0 then (l.set place.toNat ⟨(postA l place).f0, (postA l place).f1, withoutL (postA l place).f2 oid⟩, 0) else ([], givenC l (decide (1 ≤ oid)) [place])
set_option maxRecDepth 100000 in
theorem forget_any (A : Option Addr) (n c : Nat) (l : List S36) (place oid : Int) (w : World) (hn : n = l.length) (hr : Kd.C k36 w A l.length l) (hc : n ≤ c) (hl : Short l) :
    Calls Try.prog 30 #[.slice A n c, .int .i64 place, .int .i64 oid] w fun e w' => ∃ A2 c2, e = .returned (.tuple #[.slice A2 (forgetF l place oid).1.length c2, .int .i64 (forgetF l place oid).2]) ∧ (forgetF l place oid).1.length ≤ c2 ∧ Kd.C k36 w' A2 (forgetF l place oid).1.length (forgetF l place oid).1 ∧ Below w.heap.size w w' := by
  subst hn
  have HR := Aside0.mk hr
  have HS := Aside0.mk hl
  have hl6 := hl.1
  clear hr hl
  go_enter Try.func30, Try.ntmps30
  go_wp2_with fail
  obtain ⟨g0, hg0⟩ : ∃ g, g = w.heap.size := ⟨_, rfl⟩
  obtain ⟨w1, hw1⟩ : ∃ w1, w1 = w.alloc (Obj.cells #[Value.int IntKind.i64 place] 3) := ⟨_, rfl⟩
  rw [← hw1, ← hg0]
  have HB1 : Aside0 (Below w.heap.size w w1) := ⟨by rw [hw1]; exact below_alloc (Below.refl _ _) _⟩
  have HP1 : Aside0 (Kd.C (Kd.int .i64) w1 (some ⟨g0, 0, none⟩) 1 [place]) := ⟨one_ints w1 place (by rw [hw1, hg0]; exact heap_alloc_new _ _)⟩
  clear hw1 hg0
  obtain ⟨ok, hok⟩ : ∃ ok, ok = decide (1 ≤ oid) := ⟨_, rfl⟩
  rw [← hok]
  refine (given_any A l.length c l ok (some ⟨g0, 0, none⟩) 1 1 [place] w1 rfl (Kd.C_below HR.out HB1.out) hc HS.out rfl HP1.out (Nat.le_refl _) (by simp)).mono ?_
  rintro e w2 ⟨v, rfl, hB, hv0, hv1⟩
  have HB2 : Aside0 (Below w.heap.size w w2) := ⟨HB1.out.trans (hB.mono HB1.out.size)⟩
  by_cases hgc : givenC l ok [place] = 0
  rotate_left
  · have HV : Aside0 (forgetF l place oid = ([], givenC l ok [place])) := ⟨by unfold forgetF; rw [← hok, if_neg hgc]⟩
    have hv := hv1 hgc
    subst hv
    obtain ⟨gc, hgc2⟩ : ∃ gc, gc = givenC l ok [place] := ⟨_, rfl⟩
    rw [← hgc2] at hgc HV ⊢
    have dg : (gc != 0) = true := by rw [bne_iff_ne]; exact hgc
    clear hgc hgc2 hok hv0 hv1 hB
    go_wp2_with fail
    go_returns
    exact ⟨none, 0, by rw [HV.out]; rfl, by rw [HV.out]; exact Nat.le_refl _, by rw [HV.out]; exact Kd.C_nil _ _, HB2.out⟩
  obtain ⟨i, hpi, hil, hx⟩ := given_post hgc
  have HV : Aside0 (forgetF l place oid = (l.set i ⟨(postA l place).f0, (postA l place).f1, withoutL (postA l place).f2 oid⟩, 0)) := ⟨by unfold forgetF; rw [← hok, if_pos hgc, hpi]; rfl⟩
  obtain ⟨x, hxe⟩ : ∃ x, x = postA l place := ⟨_, rfl⟩
  rw [← hxe] at hx HV
  clear hxe
  subst hpi
  obtain ⟨g, cap, rfl, hO, hcap, hbg, hg2⟩ := own_of (hv0 hgc) (by omega)
  rw [hgc]
  have HO := Aside0.mk hO
  have HX := Aside0.mk hx
  have HBG : Aside0 (w.heap.size ≤ g) := ⟨Nat.le_trans HB1.out.size hbg⟩
  have hw12 := HB1.out.size
  clear hgc hok hv0 hv1 hO hx hB hg2
  obtain ⟨A1, c1, A2, c2, q0, q1, q2, f0, f1, f2, r1, r2, hc1, hc2⟩ := HO.out.cells HX.out
  have HR2 := Aside0.mk r2
  clear r1 r2
  go_wp2_with fail
  have hs2 : x.f2.length ≤ 1000000000000 := (HS.out.2 x (List.mem_of_getElem? HX.out)).2
  refine (without_any A2 c2 x.f2 oid w2 (Kd.R_reads' HR2.out).2.2 hc2 hs2).mono ?_
  rintro e w3 ⟨v, rfl, hF, hB⟩
  obtain ⟨U, cu, rfl⟩ := Kd.R_slice hF
  have HO3 := Aside0.mk (HO.out.below hB)
  have HB3 : Aside0 (Below w.heap.size w w3) := ⟨HB2.out.trans (hB.mono HB2.out.size)⟩
  have hws : w1.heap.size ≤ w2.heap.size := by have h := Kd.R_lt HO.out g (by simp [Value.ownBlock]); omega
  have hO4 := HO3.out.put2 HX.out hws hF
  obtain ⟨l2, hl2⟩ : ∃ l2, l2 = l.set i ⟨x.f0, x.f1, withoutL x.f2 oid⟩ := ⟨_, rfl⟩
  rw [← hl2] at hO4 HV
  have hL : l2.length = l.length := by rw [hl2, List.length_set]
  have HO4 := Aside0.mk hO4
  have HB4 : Aside0 (Below w.heap.size w (w3.setCell ⟨g, i * 3 + 2, none⟩ (.slice U (withoutL x.f2 oid).length cu))) := ⟨below_set HB3.out HBG.out⟩
  have hC4 := hO4.C
  rw [hL] at hC4
  have HC4 := Aside0.mk hC4
  have HL := Aside0.mk hL
  clear hF hB hws q0 q1 q2 f0 f1 f2 HR2 hl2 hO4 hC4 hL
  obtain ⟨A1', c1', A2', c2', q0, q1, q2, f0, f1, f2, r1, r2, hc1', hc2'⟩ := HO3.out.cells HX.out
  clear r1 r2
  go_wp2_with fail
  refine (posts_any (some ⟨g, 0, none⟩) l.length cap l2 _ HL.out.symm HC4.out hcap (by rw [HL.out]; exact hl6)).mono ?_
  rintro e w5 ⟨A5, c5, rfl, h5, hC5, hB⟩
  have HC5 := Aside0.mk hC5
  have HB5 : Aside0 (Below w.heap.size w w5) := ⟨HB4.out.trans (hB.mono HB4.out.size)⟩
  clear hC5 hB q0 q1 q2 f0 f1 f2
  go_wp2_with fail
  go_returns
  exact ⟨A5, c5, by rw [HV.out]; rfl, by rw [HV.out]; exact h5, by rw [HV.out]; exact HC5.out, HB5.out⟩
def whereF (l : List S36) (oid : Int) : S31 × Int :=
  if givenC l (decide (1 ≤ oid)) [] = 0 then (if (whereL l oid).2 = true then ((whereL l oid).1, 0) else (⟨0, 0, 0⟩, 3)) else (⟨0, 0, 0⟩, givenC l (decide (1 ≤ oid)) [])
set_option maxRecDepth 100000 in
theorem Where_any (A : Option Addr) (n c : Nat) (l : List S36) (oid : Int) (w : World) (hn : n = l.length) (hr : Kd.C k36 w A l.length l) (hc : n ≤ c) (hl : Short l) :
    Calls Try.prog 18 #[.slice A n c, .int .i64 oid] w fun e w' => e = .returned (.tuple #[hintV (whereF l oid).1, .int .i64 (whereF l oid).2]) ∧ Below w.heap.size w w' := by
  subst hn
  have HR := Aside0.mk hr
  have HS := Aside0.mk hl
  have hl6 := hl.1
  clear hr hl
  have hu := Try.underlying31
  go_enter Try.func18, Try.ntmps18
  go_wp2_with fail
  obtain ⟨gr, hgr⟩ : ∃ g, g = w.heap.size := ⟨_, rfl⟩
  obtain ⟨w1, hw1⟩ : ∃ w1, w1 = w.alloc (Obj.cells #[Value.int IntKind.i64 0, Value.int IntKind.i64 0, Value.int IntKind.i64 0] 31) := ⟨_, rfl⟩
  rw [← hw1, ← hgr]
  have HB1 : Aside0 (Below w.heap.size w w1) := ⟨by rw [hw1]; exact below_alloc (Below.refl _ _) _⟩
  have HQ1 : Aside0 (w1.heap[gr]? = some (.cells #[.int .i64 0, .int .i64 0, .int .i64 0] 31 (0, 0))) := ⟨by rw [hw1, hgr]; exact heap_alloc_new _ _⟩
  have HG : Aside0 (w.heap.size ≤ gr) := ⟨by omega⟩
  clear hw1 hgr
  obtain ⟨ok, hok⟩ : ∃ ok, ok = decide (1 ≤ oid) := ⟨_, rfl⟩
  rw [← hok]
  refine (given_any A l.length c l ok none 0 0 [] w1 rfl (Kd.C_below HR.out HB1.out) hc HS.out rfl (Kd.C_nil _ _) (Nat.le_refl _) (by simp)).mono ?_
  rintro e w2 ⟨v, rfl, hB, hv0, hv1⟩
  have HB2 : Aside0 (Below w.heap.size w w2) := ⟨HB1.out.trans (hB.mono HB1.out.size)⟩
  have HQ2 := Aside0.mk (blk_below HQ1.out hB)
  by_cases hgc : givenC l ok [] = 0
  rotate_left
  · have HV : Aside0 (whereF l oid = (⟨0, 0, 0⟩, givenC l ok [])) := ⟨by unfold whereF; rw [← hok, if_neg hgc]⟩
    have hv := hv1 hgc
    subst hv
    obtain ⟨gc, hgc2⟩ : ∃ gc, gc = givenC l ok [] := ⟨_, rfl⟩
    rw [← hgc2] at hgc HV ⊢
    have dg : (gc != 0) = true := by rw [bne_iff_ne]; exact hgc
    clear hgc hgc2 hok hv0 hv1 hB
    obtain ⟨q0, q1, q2, f0, f1, f2⟩ := blk3 HQ2.out
    go_wp2_with fail
    refine bodyPost_ret (results_ct rfl _ _ gr 31 #[.int .i64 0, .int .i64 0, .int .i64 0] (0, 0) _ rfl (blk_store3 HQ2.out _ _ _) Try.underlying31 rfl (by kernel_rfl)) rfl ?_
    exact ⟨by rw [HV.out]; rfl, below_store3 HB2.out HG.out _ _ _⟩
  have HV : Aside0 (whereF l oid = (if (whereL l oid).2 = true then ((whereL l oid).1, 0) else (⟨0, 0, 0⟩, 3))) := ⟨by unfold whereF; rw [← hok, if_pos hgc]⟩
  have hR2 := hv0 hgc
  obtain ⟨B, cb, rfl, hcb, hCB⟩ := Kd.R_reads hR2
  have HCB := Aside0.mk hCB
  rw [hgc]
  clear hgc hok hv0 hv1 hB hR2 hCB
  go_wp2_with fail
  refine (where_any B l.length cb l oid w2 rfl HCB.out hcb HS.out).mono ?_
  rintro e w3 ⟨rfl, hB⟩
  have HB3 : Aside0 (Below w.heap.size w w3) := ⟨HB2.out.trans (hB.mono HB2.out.size)⟩
  have HQ3 := Aside0.mk (blk_below HQ2.out hB)
  obtain ⟨x, hx⟩ : ∃ x, x = (whereL l oid).1 := ⟨_, rfl⟩
  obtain ⟨b, hb⟩ : ∃ b, b = (whereL l oid).2 := ⟨_, rfl⟩
  rw [← hx, ← hb] at HV ⊢
  clear hx hb hB
  unfold hintV
  have hnew : ∀ o : Obj, (w3.alloc o).heap[gr]? = some (.cells #[.int .i64 0, .int .i64 0, .int .i64 0] 31 (0, 0)) := fun o => blk_alloc HQ3.out o
  have HN := Aside0.mk hnew
  clear hnew
  cases b with
  | true =>
    go_upto_region 5 with fail
    obtain ⟨w4, hw4⟩ : ∃ w4, w4 = w3.alloc (Obj.cells #[Value.int IntKind.i64 x.f0, Value.int IntKind.i64 x.f1, Value.int IntKind.i64 x.f2] 31) := ⟨_, rfl⟩
    obtain ⟨gx, hgx⟩ : ∃ g, g = w3.heap.size := ⟨_, rfl⟩
    rw [← hw4, ← hgx]
    have HQ4 : Aside0 (w4.heap[gr]? = some (.cells #[.int .i64 0, .int .i64 0, .int .i64 0] 31 (0, 0))) := ⟨by rw [hw4]; exact HN.out _⟩
    have HX4 : Aside0 (w4.heap[gx]? = some (.cells #[.int .i64 x.f0, .int .i64 x.f1, .int .i64 x.f2] 31 (0, 0))) := ⟨by rw [hw4, hgx]; exact heap_alloc_new _ _⟩
    have HB4 : Aside0 (Below w.heap.size w w4) := ⟨by rw [hw4]; exact below_alloc HB3.out _⟩
    clear hw4 hgx
    obtain ⟨q0, q1, q2, f0, f1, f2⟩ := blk3 HQ4.out
    obtain ⟨r0, r1, r2, d0, d1, d2⟩ := blk3 HX4.out
    go_wp2_with fail
    refine bodyPost_ret (results_ct rfl _ _ gr 31 #[.int .i64 x.f0, .int .i64 x.f1, .int .i64 x.f2] (0, 0) _ rfl (blk_store3 HQ4.out _ _ _) Try.underlying31 rfl (by kernel_rfl)) rfl ?_
    exact ⟨by rw [HV.out]; rfl, below_store3 HB4.out HG.out _ _ _⟩
  | false =>
    go_upto_region 5 with fail
    obtain ⟨w4, hw4⟩ : ∃ w4, w4 = w3.alloc (Obj.cells #[Value.int IntKind.i64 x.f0, Value.int IntKind.i64 x.f1, Value.int IntKind.i64 x.f2] 31) := ⟨_, rfl⟩
    obtain ⟨gx, hgx⟩ : ∃ g, g = w3.heap.size := ⟨_, rfl⟩
    rw [← hw4, ← hgx]
    have HQ4 : Aside0 (w4.heap[gr]? = some (.cells #[.int .i64 0, .int .i64 0, .int .i64 0] 31 (0, 0))) := ⟨by rw [hw4]; exact HN.out _⟩
    have HB4 : Aside0 (Below w.heap.size w w4) := ⟨by rw [hw4]; exact below_alloc HB3.out _⟩
    clear hw4 hgx
    obtain ⟨q0, q1, q2, f0, f1, f2⟩ := blk3 HQ4.out
    go_wp2_with fail
    refine bodyPost_ret (results_ct rfl _ _ gr 31 #[.int .i64 0, .int .i64 0, .int .i64 0] (0, 0) _ rfl (blk_store3 HQ4.out _ _ _) Try.underlying31 rfl (by kernel_rfl)) rfl ?_
    exact ⟨by rw [HV.out]; rfl, below_store3 HB4.out HG.out _ _ _⟩
end Go.Proofs.Ytjnceoohlcchnaa.Print
