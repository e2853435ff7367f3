/- What the small functions on lists of hints compute: contracts, whatever the input. -/
import Derived.WalkKit
import Derived.Maps.Own
import Derived.ChangeMaps5
import Derived.Test.YtjnceoohlcchnaaR0
import Derived.Lib.SliceRun
import Derived.WalkLawsBesides
import Derived.Handy
import Derived.BigQuiet
import Derived.Deep.QuietTactic
import Derived.Deep.DeepCutAuto
import Derived.Deep.CutBlock
import Derived.Shelf.Spec.SlicesInsert
import Derived.Lib.Overlaps
import Derived.Lib.AppendZerosOnto
set_option linter.unusedVariables false
set_option linter.unusedSimpArgs false
namespace Go.Proofs.Ytjnceoohlcchnaa.Print
set_option linter.unusedSectionVars false
open Go.RowKit Go.MapKept

structure KeyEnc (P : Program) (kt : TypeId) (κ : Type) [DecidableEq κ] (enc : κ → Value) : Prop where
  same : ∃ d, P.underlying kt = some d ∧ ∀ a b, Instr.sameNow d (enc a) (enc b) = some (decide (a = b))
  chk : ∀ empty a w, (Instr.checkKey empty 10000 kt (enc a)).run P w = .ok () w
  bits : ∀ a, Instr.sameBits 10000 (enc a) (enc a) = true

def mget {κ β : Type} [DecidableEq κ] (m : List (κ × β)) (k : κ) : Option β := (m.find? (fun p => decide (k = p.1))).map (·.2)
def mput {κ β : Type} [DecidableEq κ] : List (κ × β) → κ → β → List (κ × β)
  | [], k, v => [(k, v)]
  | (k', v') :: m, k, v => if k = k' then (k', v) :: m else (k', v') :: mput m k v
theorem mget_nil {κ β : Type} [DecidableEq κ] (k : κ) : mget ([] : List (κ × β)) k = none := rfl
theorem mget_put {κ β : Type} [DecidableEq κ] (m : List (κ × β)) (k : κ) (v : β) (j : κ) : mget (mput m k v) j = if j = k then some v else mget m j := by
  induction m with
  | nil => by_cases h : j = k <;> simp [mget, mput, h]
  | cons p m ih =>
    obtain ⟨k', v'⟩ := p
    unfold mput
    by_cases hk : k = k'
    · subst hk
      by_cases h : j = k
      · simp [mget, h]
      · simp [mget, h]
    · rw [if_neg hk]
      by_cases h : j = k'
      · subst h; rw [if_neg (fun e => hk e.symm)]; simp [mget]
      · have e1 : mget ((k', v') :: mput m k v) j = mget (mput m k v) j := by simp [mget, h]
        have e2 : mget ((k', v') :: m) j = mget m j := by simp [mget, h]
        rw [e1, e2, ih]
theorem mput_len {κ β : Type} [DecidableEq κ] (m : List (κ × β)) (k : κ) (v : β) : (mput m k v).length ≤ m.length + 1 := by
  induction m with
  | nil => simp [mput]
  | cons p m ih => obtain ⟨k', v'⟩ := p; unfold mput; split <;> simp; omega

def MapAt {κ : Type} (enc : κ → Value) (w : World) (b : Nat) (m : List (κ × Value)) : Prop :=
  ∃ es clock, w.heap[b]? = some (.map es clock) ∧ es.toList.map (fun e => (e.key, e.val)) = m.map (fun p => (enc p.1, p.2))
section
variable {P : Program} {kt t e : TypeId} {κ : Type} [DecidableEq κ] {enc : κ → Value} {w w1 : World} {b : Nat} {m : List (κ × Value)}
theorem MapAt.lt (h : MapAt enc w b m) : b < w.heap.size := by obtain ⟨_, _, h, _⟩ := h; exact (Array.getElem?_eq_some_iff.1 h).1
theorem MapAt.move (h : MapAt enc w b m) (hb : w1.heap[b]? = w.heap[b]?) : MapAt enc w1 b m := by
  obtain ⟨es, c, h, e⟩ := h; exact ⟨es, c, hb.trans h, e⟩
theorem MapAt.made (w : World) : MapAt enc (w.alloc (.map #[] 0)) w.heap.size [] := ⟨#[], 0, heap_alloc_new w _, rfl⟩

theorem findNow_map {d : TypeDesc} (hs : ∀ a b, Instr.sameNow d (enc a) (enc b) = some (decide (a = b))) (k : κ) :
    ∀ (es : List MapEntry) (m : List (κ × Value)) (i : Nat), es.map (fun e => (e.key, e.val)) = m.map (fun p => (enc p.1, p.2)) →
      Instr.findNow d (enc k) es i = some ((mget m k).map fun v => (i + m.findIdx (fun p => decide (k = p.1)), v))
  | [], m, i, h => by
    have : m = [] := by cases m with | nil => rfl | cons _ _ => simp at h
    subst this; rfl
  | e :: es, m, i, h => by
    cases m with
    | nil => simp at h
    | cons p m =>
      obtain ⟨k', v'⟩ := p
      simp only [List.map_cons, List.cons.injEq, Prod.mk.injEq] at h
      obtain ⟨⟨h1, h2⟩, h3⟩ := h
      unfold Instr.findNow
      rw [h1, hs]
      by_cases hk : k = k'
      · subst hk; simp [mget, h2, List.findIdx_cons]
      · have := findNow_map hs k es m (i + 1) h3
        simp only [hk, decide_false]
        rw [this]
        simp only [mget, List.find?_cons, hk, decide_false, List.findIdx_cons, cond_false]
        congr 1
        cases (List.find? (fun p => decide (k = p.1)) m) <;> simp; omega

theorem run_lookup (K : KeyEnc P kt κ enc) (ht : P.underlying t = some (.map kt e)) (h : MapAt enc w b m) (k : κ) {z : Value} (hz : (zeroValue e).run P w = .ok z w) :
    (Instr.lookup t (.map (some b)) (enc k) false).run P w = .ok ((mget m k).getD z) w := by
  obtain ⟨es, c, hb, hm⟩ := h
  obtain ⟨d, hd, hs⟩ := K.same
  have hf := findNow_map hs k es.toList m 0 hm
  simp only [Instr.lookup, Instr.findKey]
  simp [run_underlying ht, run_underlying hd, MapKept.run_getObj_map hb, K.chk, hf, Result.andThen]
  cases hg : mget m k with
  | none => simp [hz, Result.andThen]
  | some v => simp [Result.andThen]
theorem run_lookup_ok (K : KeyEnc P kt κ enc) (ht : P.underlying t = some (.map kt e)) (h : MapAt enc w b m) (k : κ) {z : Value} (hz : (zeroValue e).run P w = .ok z w) :
    (Instr.lookup t (.map (some b)) (enc k) true).run P w = .ok (.tuple #[(mget m k).getD z, .bool (mget m k).isSome]) w := by
  obtain ⟨es, c, hb, hm⟩ := h
  obtain ⟨d, hd, hs⟩ := K.same
  have hf := findNow_map hs k es.toList m 0 hm
  simp only [Instr.lookup, Instr.findKey]
  simp [run_underlying ht, run_underlying hd, MapKept.run_getObj_map hb, K.chk, hf, Result.andThen]
  cases hg : mget m k with
  | none => simp [hz, Result.andThen]
  | some v => simp [Result.andThen]
theorem findIdx_lt (m : List (κ × Value)) (k : κ) {v : Value} (h : mget m k = some v) : ∃ p, m[m.findIdx (fun p => decide (k = p.1))]? = some p ∧ p.1 = k := by
  induction m with
  | nil => simp [mget] at h
  | cons p m ih =>
    by_cases hk : k = p.1
    · exact ⟨p, by simp [List.findIdx_cons, hk], hk.symm⟩
    · have e : mget (p :: m) k = mget m k := by simp [mget, hk]
      obtain ⟨q, h1, h2⟩ := ih (by rw [← e]; exact h)
      exact ⟨q, by simpa [List.findIdx_cons, hk] using h1, h2⟩
theorem mput_some (m : List (κ × Value)) (k : κ) (v : Value) {u : Value} (h : mget m k = some u) : (mput m k v).map (fun p => (enc p.1, p.2)) = (m.map (fun p => (enc p.1, p.2))).modify (m.findIdx (fun p => decide (k = p.1))) (fun _ => (enc k, v)) := by
  induction m with
  | nil => simp [mget] at h
  | cons p m ih =>
    obtain ⟨k', v'⟩ := p
    unfold mput
    by_cases hk : k = k'
    · subst hk; simp [List.findIdx_cons]
    · have e : mget ((k', v') :: m) k = mget m k := by simp [mget, hk]
      rw [if_neg hk]
      simp only [List.map_cons, List.findIdx_cons, hk, decide_false, cond_false, List.modify_succ_cons]
      rw [ih (by rw [← e]; exact h)]
theorem mput_none (m : List (κ × Value)) (k : κ) (v : Value) (h : mget m k = none) : mput m k v = m ++ [(k, v)] := by
  induction m with
  | nil => rfl
  | cons p m ih =>
    obtain ⟨k', v'⟩ := p
    unfold mput
    by_cases hk : k = k'
    · subst hk; simp [mget] at h
    · have e : mget ((k', v') :: m) k = mget m k := by simp [mget, hk]
      rw [if_neg hk, ih (by rw [← e]; exact h)]; rfl
theorem run_mapUpdate (K : KeyEnc P kt κ enc) (ht : P.underlying t = some (.map kt e)) (h : MapAt enc w b m) (k : κ) (v : Value) :
    ∃ w', (Instr.mapUpdate t (.map (some b)) (enc k) v).run P w = .ok () w' ∧ MapAt enc w' b (mput m k v) ∧ w.grownBy w' (some b) := by
  obtain ⟨es, c, hb, hm⟩ := h
  obtain ⟨d, hd, hs⟩ := K.same
  have hf := findNow_map hs k es.toList m 0 hm
  have hgr : ∀ o : Obj, w.grownBy (Go.ChangeMaps.setBlock w b o) (some b) := fun o => ⟨rfl, rfl, rfl, by simp [Go.ChangeMaps.setBlock], fun i _ hi => Go.ChangeMaps.heap_setBlock_other hb _ (fun e => hi (by rw [e]))⟩
  cases hg : mget m k with
  | none =>
    rw [hg] at hf
    refine ⟨Go.ChangeMaps.setBlock w b (.map (es.push { key := enc k, val := v, born := c }) (c + 1)), ?_, ⟨_, _, Go.ChangeMaps.heap_setBlock_same hb _, ?_⟩, hgr _⟩
    · simp only [Instr.mapUpdate, Instr.findKey]
      simp [run_underlying ht, run_underlying hd, MapKept.run_getObj_map hb, K.chk, hf, Result.andThen, MapKept.run_setObj_map _ hb]
      rfl
    · rw [mput_none m k v hg]; simp [hm]
  | some u =>
    rw [hg] at hf
    obtain ⟨p, hp1, hp2⟩ := findIdx_lt m k hg
    have hp3 : (es.toList.map (fun e => (e.key, e.val)))[m.findIdx (fun p => decide (k = p.1))]? = some (enc p.1, p.2) := by rw [hm, List.getElem?_map, hp1]; rfl
    rw [List.getElem?_map] at hp3
    obtain ⟨en, he1, he2⟩ := Option.map_eq_some_iff.1 hp3
    have hk1 : en.key = enc k := by rw [← hp2]; exact congrArg Prod.fst he2
    have he1' : es[m.findIdx (fun p => decide (k = p.1))]? = some en := by simpa using he1
    have hst : (Instr.keyThatStays (enc k) (enc k)).run P w = .ok (enc k) w := by simp [Instr.keyThatStays, K.bits]
    refine ⟨Go.ChangeMaps.setBlock w b (.map (es.modify (m.findIdx (fun p => decide (k = p.1))) fun e => { e with key := enc k, val := v }) c), ?_, ⟨_, _, Go.ChangeMaps.heap_setBlock_same hb _, ?_⟩, hgr _⟩
    · simp only [Instr.mapUpdate, Instr.findKey]
      simp [run_underlying ht, run_underlying hd, MapKept.run_getObj_map hb, K.chk, hf, Result.andThen, MapKept.run_setObj_map _ hb, he1', hk1, hst]
      rfl
    · rw [mput_some m k v hg, ← hm]
      simp only [Array.toList_modify]
      apply List.ext_getElem?
      intro i
      simp only [List.getElem?_map, List.getElem?_modify]
      split <;> simp_all <;> cases es[i]? <;> rfl
end
/-- integer keys -/
def kInt (k : Int) : Value := .int .i64 k
theorem chk_int {P : Program} {kt : TypeId} (h : P.underlying kt = some (.int .i64)) (empty : Bool) (a : Int) (w : World) (n : Nat) : (Instr.checkKey empty (n + 1) kt (.int .i64 a)).run P w = .ok () w := by
  simp [Instr.checkKey, run_underlying h]
theorem bits_int (a : Int) (n : Nat) : Instr.sameBits n (.int .i64 a) (.int .i64 a) = true := by unfold Instr.sameBits; simp
theorem kInt_enc {P : Program} {kt : TypeId} (h : P.underlying kt = some (.int .i64)) : KeyEnc P kt Int kInt where
  same := ⟨_, h, fun a b => by simp [Instr.sameNow, kInt]; rfl⟩
  chk := fun empty a w => chk_int h empty a w 9999
  bits := fun a => bits_int a 10000
end Go.Proofs.Ytjnceoohlcchnaa.Print

/-! Copies of hints. -/
namespace Go.Proofs.Ytjnceoohlcchnaa.Print
open Go.RowKit Go.Proofs.YtjnceoohlcchnaaW.PrintWords Go.Proofs.YtjnceoohlcchnaaW.PrintLast Go.Proofs.YtjnceoohlcchnaaW.PrintMore

theorem C_none {α : Type} {d : Kd α} {w : World} {n : Nat} {xs : List α} (h : Kd.C d w none n xs) : xs = [] := by
  obtain ⟨h1, _, h2⟩ := h
  rcases Nat.eq_zero_or_pos xs.length with h | h
  · exact List.eq_nil_of_length_eq_zero h
  · obtain ⟨ad, e, _⟩ := h2 (by omega); cases e
theorem R_empty {α : Type} (d : Kd α) (e : Nat) (w : World) : Kd.R d e (w.alloc (.cells #[] e)) w.heap.size (fun _ => True) (.slice (some ⟨w.heap.size, 0, none⟩) 0 0) [] := by
  have h2 := World.ownsRow_lit (base := w.heap.size) (e := e) (size := d.sz) w #[] 0 (Nat.le_refl _) (by simp [maxLen]) (by simp)
  exact ⟨fun _ _ => trivial, [], by simpa using h2, by simp, fun j p hj => by simp at hj⟩
/-- hints of one's own -/
def FreshH (w w' : World) (v : Value) (l : List S31) : Prop := Kd.R k31 31 w' w.heap.size (fun _ => True) v l ∧ Below w.heap.size w w'

theorem clone_hints (A : Option Addr) (c : Nat) (l : List S31) (w : World) (hr : Kd.C k31 w A l.length l) (hc : l.length ≤ c) (hl : l.length ≤ 1000000000000) :
    Calls Try.prog 86 #[.slice A l.length c] w fun e w' => ∃ v, e = .returned v ∧ FreshH w w' v l := by
  have q22 : ∀ (w : World) (a : Option Addr) (n c n' c' : Nat), (binOp .eql 34 (.slice a n c) (.slice none n' c')).run Try.prog w = .ok (.bool a.isNone) w := fun w a n c n' c' => Lib.run_eql_slice_nil w _ _ a n c n' c' Try.underlying34
  have HR := Aside0.mk hr
  clear hr
  cases A with
  | none =>
    have hx : l = [] := C_none HR.out
    subst hx
    go_enter Try.func86, Try.ntmps86
    go_wp2
    go_ret
    exact ⟨_, rfl, Kd.R_nil _ _ _ _ _, Below.refl _ _⟩
  | some ad =>
    go_enter Try.func86, Try.ntmps86
    go_wp2_with (at_builtin; refine Kd.R_append_rows k31 (w0 := w) w.heap.size rfl (.tmp 5) (.tmp 6) 34 31 (.agg #[(.int .i64 0), (.int .i64 0), (.int .i64 0)]) 24 rfl Try.underlying34 info31 rfl (by decide) (by omega) (.slice (some ⟨w.heap.size, 0, none⟩) 0 0) [] l (some ad) l.length c (fun _ => True) (fun _ => False) rfl rfl ?aO ?aR (fun _ _ h => h) (fun _ h => h.elim) (fun _ _ => trivial) ?aB ?aS ?aL ?_)
    case aO => exact R_empty _ _ _
    case aR => exact Kd.C_below HR.out (below_alloc (Below.refl _ _) _)
    case aB => exact below_alloc (Below.refl _ _) _
    case aS => simp
    case aL => simp; omega
    intro v1 w1 hR hB _ _
    have H1 := Aside0.mk hR; clear hR
    go_wp2
    go_ret
    exact ⟨_, rfl, H1.out, hB⟩
end Go.Proofs.Ytjnceoohlcchnaa.Print

/-! The place of a hint in a list. -/
namespace Go.Proofs.Ytjnceoohlcchnaa.Print
open Go Go.RowKit Go.Deep Go.Proofs.YtjnceoohlcchnaaW.PrintWords Go.Proofs.YtjnceoohlcchnaaW.PrintLast Go.Proofs.YtjnceoohlcchnaaW.PrintMore

def cmpF (a b : Int) : Int := if a < b then -1 else if a > b then 1 else 0
theorem cmp_any (a b : Int) (w : World) : Calls Try.prog 108 #[.int .i64 a, .int .i64 b] w fun e w' => e = .returned (.int .i64 (cmpF a b)) ∧ w' = w := by
  unfold cmpF
  by_cases h1 : a < b
  · rw [if_pos h1]
    have d1 : decide (a < b) = true := decide_eq_true h1
    go_enter Try.func108, Try.ntmps108
    go_wp2_with fail
    go_returns
    exact ⟨rfl, rfl⟩
  · rw [if_neg h1]
    have d1 : decide (a < b) = false := decide_eq_false h1
    by_cases h2 : a > b
    · rw [if_pos h2]
      have d2 : decide (b < a) = true := decide_eq_true h2
      go_enter Try.func108, Try.ntmps108
      go_wp2_with fail
      go_returns
      exact ⟨rfl, rfl⟩
    · rw [if_neg h2]
      have d2 : decide (b < a) = false := decide_eq_false h2
      go_enter Try.func108, Try.ntmps108
      go_wp2_with fail
      go_returns
      exact ⟨rfl, rfl⟩
theorem cmp_zero (a b : Int) : (cmpF a b == 0) = (a == b) := by
  unfold cmpF
  split
  · have : (a == b) = false := by rw [beq_eq_false_iff_ne]; omega
    rw [this]
    rfl
  · split
    · have : (a == b) = false := by rw [beq_eq_false_iff_ne]; omega
      rw [this]
      rfl
    · have : (a == b) = true := by rw [beq_iff_eq]; omega
      rw [this]
      rfl
def hintV (x : S31) : Value := .agg #[.int .i64 x.f0, .int .i64 x.f1, .int .i64 x.f2]
theorem at1_any (a b c oid : Int) (w : World) : Calls Try.prog 107 #[.agg #[.int .i64 a, .int .i64 b, .int .i64 c], .int .i64 oid] w fun e w' => e = .returned (.int .i64 (cmpF a oid)) ∧ Below w.heap.size w w' := by
  go_enter Try.func107, Try.ntmps107
  go_wp2_with fail
  refine (cmp_any a oid _).mono ?_
  rintro e w' ⟨rfl, rfl⟩
  go_wp2_with fail
  go_returns
  exact ⟨rfl, below_alloc (Below.refl _ _) _⟩
theorem hint_at {w : World} {A : Option Addr} {l : List S31} (h : Kd.C k31 w A l.length l) (i : Nat) (hi : i < l.length) :
    ∃ ad x, A = some ad ∧ l[i]? = some x ∧ w.cell? (ad.add (i * 3)) = some (.int .i64 x.f0) ∧ w.cell? ⟨(ad.add (i * 3)).block, (ad.add (i * 3)).off + 1, none⟩ = some (.int .i64 x.f1) ∧ w.cell? ⟨(ad.add (i * 3)).block, (ad.add (i * 3)).off + 2, none⟩ = some (.int .i64 x.f2) := by
  obtain ⟨ad, e, h0, h1, h2⟩ := at_T31 h (i : Int) (by omega) (by omega)
  refine ⟨ad, l[i], e, List.getElem?_eq_getElem hi, ?_⟩
  have hx : rd_T31 l (i : Int) = l[i] := by
    unfold rd_T31
    simp [List.getD_eq_getElem?_getD, List.getElem?_eq_getElem hi]
  rw [hx] at h0 h1 h2
  exact ⟨h0, h1, h2⟩

theorem half_nat (a b : Nat) : ((a : Int) + (b : Int)) / 2 = (((a + b) / 2 : Nat) : Int) := by omega
/-- where a hint is, or would be: the search by halves -/
def bsL (l : List S31) (oid : Int) : Nat → Nat → Nat → Nat
  | 0, lo, _ => lo
  | f + 1, lo, hi => if lo < hi then (if (l.getD ((lo + hi) / 2) ⟨0, 0, 0⟩).f0 < oid then bsL l oid f ((lo + hi) / 2 + 1) hi else bsL l oid f lo ((lo + hi) / 2)) else lo
def atI (l : List S31) (oid : Int) : Nat := bsL l oid l.length 0 l.length
def atB (l : List S31) (oid : Int) : Bool := decide (atI l oid < l.length) && ((l.getD (atI l oid) ⟨0, 0, 0⟩).f0 == oid)
theorem bsL_le (l : List S31) (oid : Int) : ∀ (f lo hi : Nat), lo ≤ hi → lo ≤ bsL l oid f lo hi ∧ bsL l oid f lo hi ≤ hi
  | 0, lo, hi, h => ⟨Nat.le_refl _, h⟩
  | f + 1, lo, hi, h => by
    unfold bsL
    split
    · split
      · have := bsL_le l oid f ((lo + hi) / 2 + 1) hi (by omega)
        omega
      · have := bsL_le l oid f lo ((lo + hi) / 2) (by omega)
        omega
    · omega
def BsRel (w : World) (l : List S31) (oid : Int) (u9 u10 : Value) (wr : World) : Prop :=
  ∃ lo hi f : Nat, u9 = .int .i64 lo ∧ u10 = .int .i64 hi ∧ lo ≤ hi ∧ hi ≤ l.length ∧ hi - lo ≤ f ∧ Aside0 (bsL l oid f lo hi = atI l oid) ∧ Aside0 (Below w.heap.size w wr)
set_option maxRecDepth 100000 in
theorem bs_any (A : Option Addr) (c : Nat) (l : List S31) (oid : Int) (w : World) (hr : Kd.C k31 w A l.length l) (hc : l.length ≤ c) (hl : l.length ≤ 1000000000000) :
    Calls Try.prog 106 #[.slice A l.length c, .int .i64 oid, .func (.func 107) #[] #[]] w fun e w' => e = .returned (.tuple #[.int .i64 (atI l oid : Int), .bool (atB l oid)]) ∧ Below w.heap.size w w' := by
  have HR := Aside0.mk hr
  have eg : ∀ args w, (callFunc 107 args).run Try.prog w = .ok (.enter 107 args) w := fun _ _ => rfl
  clear hr
  go_enter Try.func106, Try.ntmps106
  go_wp2_with fail
  go_loopw [9, 10] (fun u9 u10 wr => BsRel w l oid u9 u10 wr) (fun u9 u10 _ => (intOf u10).toNat - (intOf u9).toNat)
  case atStart => exact ⟨0, l.length, l.length, rfl, rfl, Nat.zero_le _, Nat.le_refl _, by omega, ⟨rfl⟩, ⟨Below.refl _ _⟩⟩
  case round =>
    obtain ⟨lo, hi, f, rfl, rfl, h1, h2, h3, HE, HB⟩ := hrel
    by_cases hlt : lo < hi
    rotate_left
    · have hd : decide (lo < hi) = false := decide_eq_false hlt
      have he : atI l oid = lo := by
        rw [← HE.out]
        cases f with
        | zero => rfl
        | succ f => rw [bsL, if_neg hlt]
      have hv := HB.out
      by_cases hl2 : lo < l.length
      rotate_left
      · have d2 : decide (lo < l.length) = false := decide_eq_false hl2
        have hb : atB l oid = false := by unfold atB; rw [he, d2]; rfl
        have HX := Aside0.mk (And.intro he hb)
        clear he hb
        go_wp2_with fail
        go_returns
        exact ⟨by rw [HX.out.1, HX.out.2]; rfl, hv⟩
      have d2 : decide (lo < l.length) = true := decide_eq_true hl2
      obtain ⟨ad, x, rfl, hx, p0, p1, p2⟩ := hint_at (Kd.C_below HR.out HB.out) lo hl2
      have hb : atB l oid = (cmpF x.f0 oid == 0) := by
        unfold atB
        rw [he, d2, Bool.true_and, List.getD_eq_getElem?_getD, hx, Option.getD_some]
        exact (cmp_zero _ _).symm
      have HX := Aside0.mk (And.intro he hb)
      clear he hb hx
      go_wp2_with fail
      refine (at1_any x.f0 x.f1 x.f2 oid _).mono ?_
      rintro e w' ⟨rfl, hB⟩
      go_wp2_with fail
      go_returns
      exact ⟨by rw [HX.out.1, HX.out.2]; rfl, hv.trans (hB.mono hv.size)⟩
    have hd : decide (lo < hi) = true := decide_eq_true hlt
    go_upto_region 5 with fail
    rw [half_nat lo hi]
    obtain ⟨m, hm⟩ : ∃ m, m = (lo + hi) / 2 := ⟨_, rfl⟩
    rw [← hm]
    have hml : m < l.length := by omega
    have hm1 : lo ≤ m := by omega
    have hm2 : m < hi := by omega
    obtain ⟨ad, x, rfl, hx, p0, p1, p2⟩ := hint_at (Kd.C_below HR.out HB.out) m hml
    obtain ⟨f, rfl⟩ : ∃ g, f = g + 1 := ⟨f - 1, by omega⟩
    have hs := HE.out
    rw [bsL, if_pos hlt, ← hm, List.getD_eq_getElem?_getD, hx, Option.getD_some] at hs
    have hv := HB.out
    have HV := Aside0.mk hv
    clear HB hv hx hm
    by_cases hc1 : x.f0 < oid
    · rw [if_pos hc1] at hs
      have d2 : decide (cmpF x.f0 oid < 0) = true := by unfold cmpF; rw [if_pos hc1]; rfl
      have HS := Aside0.mk hs
      clear hs hc1 HE
      go_wp2_with fail
      refine (at1_any x.f0 x.f1 x.f2 oid _).mono ?_
      rintro e w' ⟨rfl, hB⟩
      have HB2 := Aside0.mk hB
      clear hB
      go_wp2_with fail
      go_roundw
      case measure => simp [intOf]; omega
      case rel => exact ⟨m + 1, hi, f, by go_num, rfl, by omega, h2, by omega, HS, ⟨HV.out.trans (HB2.out.mono HV.out.size)⟩⟩
    · rw [if_neg hc1] at hs
      have d2 : decide (cmpF x.f0 oid < 0) = false := by
        unfold cmpF
        rw [if_neg hc1]
        split <;> rfl
      have HS := Aside0.mk hs
      clear hs hc1 HE
      go_wp2_with fail
      refine (at1_any x.f0 x.f1 x.f2 oid _).mono ?_
      rintro e w' ⟨rfl, hB⟩
      have HB2 := Aside0.mk hB
      clear hB
      go_wp2_with fail
      go_roundw
      case measure => simp [intOf]; omega
      case rel => exact ⟨lo, m, f, rfl, rfl, hm1, by omega, by omega, HS, ⟨HV.out.trans (HB2.out.mono HV.out.size)⟩⟩

theorem at_any (A : Option Addr) (c : Nat) (l : List S31) (oid : Int) (w : World) (hr : Kd.C k31 w A l.length l) (hc : l.length ≤ c) (hl : l.length ≤ 1000000000000) :
    Calls Try.prog 98 #[.slice A l.length c, .int .i64 oid] w fun e w' => e = .returned (.tuple #[.int .i64 (atI l oid : Int), .bool (atB l oid)]) ∧ Below w.heap.size w w' := by
  have HR := Aside0.mk hr
  clear hr
  go_enter Try.func98, Try.ntmps98
  go_wp2_with fail
  refine (bs_any A c l oid w HR.out hc hl).mono ?_
  rintro e w' ⟨rfl, hB⟩
  go_wp2_with fail
  go_returns
  exact ⟨rfl, hB⟩
/-- what is known of an object in a list -/
def lookL (l : List S31) (oid : Int) : S31 := if atB l oid = true then l.getD (atI l oid) ⟨0, 0, 0⟩ else ⟨0, 0, 0⟩
end Go.Proofs.Ytjnceoohlcchnaa.Print

/-! What a list, and a place, knows of an object. -/
namespace Go.Proofs.Ytjnceoohlcchnaa.Print
open Go Go.RowKit Go.Deep Go.Proofs.YtjnceoohlcchnaaW.PrintWords Go.Proofs.YtjnceoohlcchnaaW.PrintLast Go.Proofs.YtjnceoohlcchnaaW.PrintMore

theorem blk3 {w : World} {g : Nat} {t : TypeId} {a b c : Value} (h : w.heap[g]? = some (.cells #[a, b, c] t (0, 0))) :
    w.cell? ⟨g, 0, none⟩ = some a ∧ w.cell? ⟨g, 1, none⟩ = some b ∧ w.cell? ⟨g, 2, none⟩ = some c ∧ w.frozen? ⟨g, 0, none⟩ = false ∧ w.frozen? ⟨g, 1, none⟩ = false ∧ w.frozen? ⟨g, 2, none⟩ = false := by
  have h0 := blk_cell h 0
  have h1 := blk_cell h 1
  have h2 := blk_cell h 2
  simp at h0 h1 h2
  exact ⟨h0, h1, h2, blk_frozen h 0, blk_frozen h 1, blk_frozen h 2⟩
theorem blk_store3 {W : World} {g : Nat} {t : TypeId} {x0 x1 x2 : Value} (h : W.heap[g]? = some (.cells #[x0, x1, x2] t (0, 0))) (a b c : Value) :
    (((W.setCell ⟨g, 0, none⟩ a).setCell ⟨g, 1, none⟩ b).setCell ⟨g, 2, none⟩ c).heap[g]? = some (.cells #[a, b, c] t (0, 0)) :=
  blk_put (blk_put (blk_put h 0 _ rfl) 1 _ rfl) 2 _ rfl
theorem below_store3 {w W : World} {g : Nat} (h : Below w.heap.size w W) (hg : w.heap.size ≤ g) (a b c : Value) : Below w.heap.size w (((W.setCell ⟨g, 0, none⟩ a).setCell ⟨g, 1, none⟩ b).setCell ⟨g, 2, none⟩ c) :=
  below_set (below_set (below_set h hg) hg) hg

set_option maxRecDepth 100000 in
theorem look_any (A : Option Addr) (c : Nat) (l : List S31) (oid : Int) (w : World) (hr : Kd.C k31 w A l.length l) (hc : l.length ≤ c) (hl : l.length ≤ 1000000000000) :
    Calls Try.prog 87 #[.slice A l.length c, .int .i64 oid] w fun e w' => e = .returned (.tuple #[hintV (lookL l oid), .bool (atB l oid)]) ∧ Below w.heap.size w w' := by
  have HR := Aside0.mk hr
  clear hr
  go_enter Try.func87, Try.ntmps87
  go_wp2_with fail
  obtain ⟨g, hg⟩ : ∃ g, g = w.heap.size := ⟨_, rfl⟩
  rw [← hg]
  obtain ⟨w1, hw1⟩ : ∃ w1, w1 = w.alloc (Obj.cells #[Value.int IntKind.i64 0, Value.int IntKind.i64 0, Value.int IntKind.i64 0] 31) := ⟨_, rfl⟩
  rw [← hw1]
  have HB1 : Aside0 (Below w.heap.size w w1) := ⟨by rw [hw1]; exact below_alloc (Below.refl _ _) _⟩
  have HQ1 : Aside0 (w1.heap[g]? = some (.cells #[.int .i64 0, .int .i64 0, .int .i64 0] 31 (0, 0))) := ⟨by rw [hw1, hg]; exact heap_alloc_new _ _⟩
  have HG := Aside0.mk hg
  clear hw1 hg
  refine (at_any A c l oid w1 (Kd.C_below HR.out HB1.out) hc hl).mono ?_
  rintro e w2 ⟨rfl, hB⟩
  have HB2 : Aside0 (Below w.heap.size w w2) := ⟨HB1.out.trans (hB.mono HB1.out.size)⟩
  have HQ2 := Aside0.mk (blk_below HQ1.out hB)
  clear hB HQ1 HB1
  obtain ⟨k0, k1, k2, f0, f1, f2⟩ := blk3 HQ2.out
  by_cases hb : atB l oid = true
  · have hi : atI l oid < l.length := by
      unfold atB at hb
      simp at hb
      exact hb.1
    rw [hb]
    obtain ⟨i, hI⟩ : ∃ i, i = atI l oid := ⟨_, rfl⟩
    rw [← hI] at hi ⊢
    obtain ⟨ad, x, rfl, hx, p0, p1, p2⟩ := hint_at (Kd.C_below HR.out HB2.out) i hi
    have HX : Aside0 (lookL l oid = x ∧ atB l oid = true) := ⟨by unfold lookL; rw [if_pos hb, ← hI, List.getD_eq_getElem?_getD, hx]; rfl, hb⟩
    clear hb hI hx
    go_wp2_with fail
    refine bodyPost_ret (results_ct rfl _ _ g 31 #[.int .i64 x.f0, .int .i64 x.f1, .int .i64 x.f2] (0, 0) _ rfl (blk_store3 HQ2.out _ _ _) Try.underlying31 rfl (by kernel_rfl)) rfl ?_
    exact ⟨by rw [HX.out.1, HX.out.2]; rfl, below_store3 HB2.out (by rw [HG.out]; exact Nat.le_refl _) _ _ _⟩
  · have hb2 : atB l oid = false := by simpa using hb
    rw [hb2]
    have HX : Aside0 (lookL l oid = ⟨0, 0, 0⟩ ∧ atB l oid = false) := ⟨by unfold lookL; rw [if_neg hb], hb2⟩
    clear hb hb2
    go_wp2_with fail
    refine bodyPost_ret (results_ct rfl _ _ g 31 #[.int .i64 0, .int .i64 0, .int .i64 0] (0, 0) _ rfl (blk_store3 HQ2.out _ _ _) Try.underlying31 rfl (by kernel_rfl)) rfl ?_
    exact ⟨by rw [HX.out.1, HX.out.2]; rfl, below_store3 HB2.out (by rw [HG.out]; exact Nat.le_refl _) _ _ _⟩

set_option maxRecDepth 100000 in
theorem has_any (up : Bool) (A1 : Option Addr) (n1 c1 : Nat) (A2 : Option Addr) (n2 c2 : Nat) (l : List S31) (oid : Int) (w : World) (hn : n1 = l.length) (hr : Kd.C k31 w A1 l.length l) (hc : l.length ≤ c1) (hl : l.length ≤ 1000000000000) :
    Calls Try.prog 66 #[.agg #[.bool up, .slice A1 n1 c1, .slice A2 n2 c2], .int .i64 oid] w fun e w' => e = .returned (.tuple #[hintV (lookL l oid), .bool (atB l oid)]) ∧ Below w.heap.size w w' := by
  have HR := Aside0.mk hr
  subst hn
  clear hr
  go_enter Try.func66, Try.ntmps66
  go_wp2_with fail
  obtain ⟨w1, hw1⟩ : ∃ w1, w1 = (w.alloc (Obj.cells #[Value.bool up, Value.slice A1 l.length c1, Value.slice A2 n2 c2] 81)).alloc (Obj.cells #[Value.int IntKind.i64 0, Value.int IntKind.i64 0, Value.int IntKind.i64 0] 31) := ⟨_, rfl⟩
  rw [← hw1]
  obtain ⟨g, hg⟩ : ∃ g, g = w.heap.size + 1 := ⟨_, rfl⟩
  rw [← hg]
  have HB1 : Aside0 (Below w.heap.size w w1) := ⟨by rw [hw1]; exact below_alloc (below_alloc (Below.refl _ _) _) _⟩
  have HQ1 : Aside0 (w1.heap[g]? = some (.cells #[.int .i64 0, .int .i64 0, .int .i64 0] 31 (0, 0))) := ⟨by
    rw [hw1, hg]
    have h := heap_alloc_new (w.alloc (Obj.cells #[Value.bool up, Value.slice A1 l.length c1, Value.slice A2 n2 c2] 81)) (Obj.cells #[Value.int IntKind.i64 0, Value.int IntKind.i64 0, Value.int IntKind.i64 0] 31)
    simpa using h⟩
  have HG : Aside0 (w.heap.size ≤ g) := ⟨by omega⟩
  clear hw1 hg
  refine (look_any A1 c1 l oid w1 (Kd.C_below HR.out HB1.out) hc hl).mono ?_
  rintro e w2 ⟨rfl, hB⟩
  have HB2 : Aside0 (Below w.heap.size w w2) := ⟨HB1.out.trans (hB.mono HB1.out.size)⟩
  have HQ2 := Aside0.mk (blk_below HQ1.out hB)
  clear hB HQ1 HB1
  obtain ⟨x, hx⟩ : ∃ x, x = lookL l oid := ⟨_, rfl⟩
  obtain ⟨b, hb⟩ : ∃ b, b = atB l oid := ⟨_, rfl⟩
  rw [← hx, ← hb]
  have HX := Aside0.mk (And.intro hx hb)
  clear hx hb
  obtain ⟨k0, k1, k2, f0, f1, f2⟩ := blk3 HQ2.out
  have hu := Try.underlying31
  unfold hintV
  go_wp2_with fail
  refine bodyPost_ret (results_ct rfl _ _ g 31 #[.int .i64 x.f0, .int .i64 x.f1, .int .i64 x.f2] (0, 0) _ rfl (blk_store3 HQ2.out _ _ _) Try.underlying31 rfl (by kernel_rfl)) rfl ?_
  exact ⟨by rw [HX.out.1, HX.out.2]; rfl, below_store3 HB2.out HG.out _ _ _⟩
set_option maxRecDepth 100000 in
theorem hint_any (up : Bool) (A1 : Option Addr) (n1 c1 : Nat) (A2 : Option Addr) (n2 c2 : Nat) (l : List S31) (oid : Int) (w : World) (hn : n2 = l.length) (hr : Kd.C k31 w A2 l.length l) (hc : l.length ≤ c2) (hl : l.length ≤ 1000000000000) :
    Calls Try.prog 69 #[.agg #[.bool up, .slice A1 n1 c1, .slice A2 n2 c2], .int .i64 oid] w fun e w' => e = .returned (.tuple #[hintV (lookL l oid), .bool (atB l oid)]) ∧ Below w.heap.size w w' := by
  have HR := Aside0.mk hr
  subst hn
  clear hr
  go_enter Try.func69, Try.ntmps69
  go_wp2_with fail
  obtain ⟨w1, hw1⟩ : ∃ w1, w1 = (w.alloc (Obj.cells #[Value.bool up, Value.slice A1 n1 c1, Value.slice A2 l.length c2] 81)).alloc (Obj.cells #[Value.int IntKind.i64 0, Value.int IntKind.i64 0, Value.int IntKind.i64 0] 31) := ⟨_, rfl⟩
  rw [← hw1]
  obtain ⟨g, hg⟩ : ∃ g, g = w.heap.size + 1 := ⟨_, rfl⟩
  rw [← hg]
  have HB1 : Aside0 (Below w.heap.size w w1) := ⟨by rw [hw1]; exact below_alloc (below_alloc (Below.refl _ _) _) _⟩
  have HQ1 : Aside0 (w1.heap[g]? = some (.cells #[.int .i64 0, .int .i64 0, .int .i64 0] 31 (0, 0))) := ⟨by
    rw [hw1, hg]
    have h := heap_alloc_new (w.alloc (Obj.cells #[Value.bool up, Value.slice A1 n1 c1, Value.slice A2 l.length c2] 81)) (Obj.cells #[Value.int IntKind.i64 0, Value.int IntKind.i64 0, Value.int IntKind.i64 0] 31)
    simpa using h⟩
  have HG : Aside0 (w.heap.size ≤ g) := ⟨by omega⟩
  clear hw1 hg
  refine (look_any A2 c2 l oid w1 (Kd.C_below HR.out HB1.out) hc hl).mono ?_
  rintro e w2 ⟨rfl, hB⟩
  have HB2 : Aside0 (Below w.heap.size w w2) := ⟨HB1.out.trans (hB.mono HB1.out.size)⟩
  have HQ2 := Aside0.mk (blk_below HQ1.out hB)
  clear hB HQ1 HB1
  obtain ⟨x, hx⟩ : ∃ x, x = lookL l oid := ⟨_, rfl⟩
  obtain ⟨b, hb⟩ : ∃ b, b = atB l oid := ⟨_, rfl⟩
  rw [← hx, ← hb]
  have HX := Aside0.mk (And.intro hx hb)
  clear hx hb
  obtain ⟨k0, k1, k2, f0, f1, f2⟩ := blk3 HQ2.out
  have hu := Try.underlying31
  unfold hintV
  go_wp2_with fail
  refine bodyPost_ret (results_ct rfl _ _ g 31 #[.int .i64 x.f0, .int .i64 x.f1, .int .i64 x.f2] (0, 0) _ rfl (blk_store3 HQ2.out _ _ _) Try.underlying31 rfl (by kernel_rfl)) rfl ?_
  exact ⟨by rw [HX.out.1, HX.out.2]; rfl, below_store3 HB2.out HG.out _ _ _⟩
end Go.Proofs.Ytjnceoohlcchnaa.Print

/-! A list without what it has of an object. -/
namespace Go.Proofs.Ytjnceoohlcchnaa.Print
open Go Go.RowKit Go.Deep Go.Proofs.YtjnceoohlcchnaaW.PrintWords Go.Proofs.YtjnceoohlcchnaaW.PrintLast Go.Proofs.YtjnceoohlcchnaaW.PrintMore

def withoutL (l : List S31) (oid : Int) : List S31 := l.filter fun h => h.f0 != oid
theorem without_len (l : List S31) (oid : Int) : (withoutL l oid).length ≤ l.length := List.length_filter_le _ _
theorem keep_any (a b c oid : Int) (g : Nat) (w : World) (hg : w.cell? ⟨g, 0, none⟩ = some (.int .i64 oid)) : Calls Try.prog 97 #[.agg #[.int .i64 a, .int .i64 b, .int .i64 c], .pointer (some ⟨g, 0, none⟩)] w fun e w' => e = .returned (.bool (a != oid)) ∧ Below w.heap.size w w' := by
  have hg2 : ∀ ob, (w.alloc ob).cell? ⟨g, 0, none⟩ = some (.int .i64 oid) := fun ob => (World.cell?_alloc_lt w ob _ (World.block_lt_of_cell? w _ hg)).trans hg
  go_enter Try.func97, Try.ntmps97
  go_wp2_with fail
  go_returns
  exact ⟨rfl, below_alloc (Below.refl _ _) _⟩
def FiRel (w : World) (l : List S31) (oid : Int) (u5 u10 : Value) (wr : World) : Prop :=
  ∃ i : Nat, u10 = .int .i64 i ∧ i ≤ l.length ∧ Aside0 (Kd.R k31 31 wr w.heap.size (fun _ => True) u5 (withoutL (l.take i) oid)) ∧ Aside0 (Below w.heap.size w wr)
theorem without_step (l : List S31) (oid : Int) (i : Nat) (x : S31) (h : l[i]? = some x) : withoutL (l.take (i + 1)) oid = withoutL (l.take i) oid ++ (if x.f0 != oid then [x] else []) := by
  unfold withoutL
  rw [List.take_add_one, h, List.filter_append]
  congr 1
  rw [Option.toList_some, List.filter_cons, List.filter_nil]
set_option maxRecDepth 100000 in
theorem filtered_any (A : Option Addr) (c : Nat) (l : List S31) (oid : Int) (b : Nat) (w : World) (hb : w.cell? ⟨b, 0, none⟩ = some (.int .i64 oid)) (hr : Kd.C k31 w A l.length l) (hc : l.length ≤ c) (hl : l.length ≤ 1000000000000) :
    Calls Try.prog 96 #[.slice A l.length c, .func (.func 97) #[] #[.pointer (some ⟨b, 0, none⟩)]] w fun e w' => ∃ v, e = .returned v ∧ FreshH w w' v (withoutL l oid) := by
  have HR := Aside0.mk hr
  have HBO := Aside0.mk hb
  have eg : ∀ args w, (callFunc 97 args).run Try.prog w = .ok (.enter 97 args) w := fun _ _ => rfl
  clear hr hb
  go_enter Try.func96, Try.ntmps96
  go_wp2_with fail
  go_loopw [5, 10] (fun u5 u10 wr => FiRel w l oid u5 u10 wr) (fun _ u10 _ => l.length - (intOf u10).toNat)
  case atStart => exact ⟨0, rfl, Nat.zero_le _, ⟨Kd.R_nil _ _ _ _ _⟩, ⟨Below.refl _ _⟩⟩
  case round =>
    obtain ⟨i, rfl, hi, HO, HB⟩ := hrel
    by_cases hlt : i < l.length
    rotate_left
    · have hd : decide (i < l.length) = false := decide_eq_false hlt
      go_wp2_with fail
      go_returns
      have h := HO.out
      rw [List.take_of_length_le (by omega)] at h
      exact ⟨_, rfl, h, HB.out⟩
    have hd : decide (i < l.length) = true := decide_eq_true hlt
    obtain ⟨ad, x, rfl, hx, p0, p1, p2⟩ := hint_at (Kd.C_below HR.out HB.out) i hlt
    have HST := Aside0.mk (without_step l oid i x hx)
    have HLEN : Aside0 ((withoutL (l.take i) oid).length ≤ 1000000000000) := ⟨Nat.le_trans (without_len _ _) (by rw [List.length_take]; omega)⟩
    clear hx
    go_upto_region 5 with fail
    obtain ⟨g, hg⟩ : ∃ g, g = wr.heap.size := ⟨_, rfl⟩
    obtain ⟨W, hW⟩ : ∃ W, W = wr.alloc (Obj.cells #[Value.int IntKind.i64 x.f0, Value.int IntKind.i64 x.f1, Value.int IntKind.i64 x.f2] 31) := ⟨_, rfl⟩
    rw [← hW, ← hg]
    have hBW : Below wr.heap.size wr W := by rw [hW]; exact below_alloc (Below.refl _ _) _
    have HQ : Aside0 (W.heap[g]? = some (.cells #[.int .i64 x.f0, .int .i64 x.f1, .int .i64 x.f2] 31 (0, 0))) := ⟨by rw [hW, hg]; exact heap_alloc_new _ _⟩
    replace HO := Aside0.mk (Kd.R_below HO.out hBW)
    have HBW : Aside0 (Below w.heap.size w W) := ⟨HB.out.trans (hBW.mono HB.out.size)⟩
    have hbW := (HBW.out.cell (World.block_lt_of_cell? w _ HBO.out)).trans HBO.out
    clear hW hg hBW HB p0 p1 p2
    obtain ⟨k0, k1, k2, f0, f1, f2⟩ := blk3 HQ.out
    have hu := Try.underlying31
    by_cases hx : (x.f0 != oid) = true
    · have dx : (x.f0 != oid) = true := by simpa using hx
      have hst := HST.out
      rw [dx] at hst
      have HST2 := Aside0.mk hst
      clear hst HST hx
      go_wp2_with fail
      refine (keep_any x.f0 x.f1 x.f2 oid b W hbW).mono ?_
      rintro e w2 ⟨rfl, hB⟩
      rw [dx]
      have HQ2 := Aside0.mk (blk_below HQ.out hB)
      have HO2 := Aside0.mk (Kd.R_below HO.out hB)
      have HB2 : Aside0 (Below w.heap.size w w2) := ⟨HBW.out.trans (hB.mono HBW.out.size)⟩
      clear hB
      obtain ⟨k0, k1, k2, f0, f1, f2⟩ := blk3 HQ2.out
      have hu := Try.underlying31
      go_wp2_with (at_builtin; refine Kd.R_append k31 (w0 := w) w.heap.size rfl (.tmp 17) (.tmp 19) 34 31 (.agg #[(.int .i64 0), (.int .i64 0), (.int .i64 0)]) 24 rfl Try.underlying34 info31 rfl (by decide) (by omega) u5 (withoutL (l.take i) oid) x [.int .i64 x.f0, .int .i64 x.f1, .int .i64 x.f2] (fun _ => True) (fun _ => False) rfl rfl ?aP (fun _ hk => hk.elim) (fun _ _ => trivial) HO2.out HB2.out HB2.out.size ?aL ?_)
      case aP => exact k31_mkM _ _ _ x
      case aL => have := HLEN.out; omega
      intro v3 w3 hO hB3 _ _
      have HO3 := Aside0.mk hO
      have HB3 := Aside0.mk hB3
      clear hO hB3
      go_wp2_with fail
      go_roundw
      case measure => simp [intOf]; omega
      case rel => exact ⟨i + 1, by go_num, by omega, ⟨by rw [HST2.out]; exact HO3.out⟩, HB3⟩
    · have dx : (x.f0 != oid) = false := by simpa using hx
      have hst := HST.out
      rw [dx] at hst
      have HST2 := Aside0.mk hst
      clear hst HST hx
      go_wp2_with fail
      refine (keep_any x.f0 x.f1 x.f2 oid b W hbW).mono ?_
      rintro e w2 ⟨rfl, hB⟩
      rw [dx]
      have HQ2 := Aside0.mk (blk_below HQ.out hB)
      have HO2 := Aside0.mk (Kd.R_below HO.out hB)
      have HB2 : Aside0 (Below w.heap.size w w2) := ⟨HBW.out.trans (hB.mono HBW.out.size)⟩
      clear hB
      go_wp2_with fail
      go_roundw
      case measure => simp [intOf]; omega
      case rel => exact ⟨i + 1, by go_num, by omega, ⟨by rw [HST2.out]; simpa using HO2.out⟩, HB2⟩

theorem without_any (A : Option Addr) (c : Nat) (l : List S31) (oid : Int) (w : World) (hr : Kd.C k31 w A l.length l) (hc : l.length ≤ c) (hl : l.length ≤ 1000000000000) :
    Calls Try.prog 67 #[.slice A l.length c, .int .i64 oid] w fun e w' => ∃ v, e = .returned v ∧ FreshH w w' v (withoutL l oid) := by
  have HR := Aside0.mk hr
  clear hr
  have hmf : ∀ (fn : Fn) (first cap : Array Value) (w : World), (Instr.makeFunc fn first cap).run Try.prog w = .ok (.func fn first cap) w := fun _ _ _ _ => rfl
  obtain ⟨w1, hw1⟩ : ∃ w1, w1 = w.alloc (.cells #[.int .i64 oid] 3) := ⟨_, rfl⟩
  have hB1 : Below w.heap.size w w1 := by rw [hw1]; exact below_alloc (Below.refl _ _) _
  have hx : w1.cell? ⟨w.heap.size, 0, none⟩ = some (.int .i64 oid) := by
    have := blk_cell (heap_alloc_new w (.cells #[.int .i64 oid] 3)) 0
    rw [hw1]; first | exact this | simp
  have hC := filtered_any A c l oid w.heap.size w1 hx (Kd.C_below HR.out hB1) hc hl
  have HC := Aside0.mk hC
  have HB1 := Aside0.mk hB1
  have HW1 := Aside0.mk hw1
  clear hC hB1 hx hw1
  go_enter Try.func67, Try.ntmps67
  go_wp2_with fail
  rw [← HW1.out]
  refine HC.out.mono ?_
  rintro e w2 ⟨v, rfl, hR, hB⟩
  have HR2 := Aside0.mk hR
  have HB2 := Aside0.mk hB
  clear hR hB
  go_wp2_with fail
  go_returns
  exact ⟨v, rfl, Kd.R_lower HR2.out HB1.out.size, HB1.out.trans (HB2.out.mono HB1.out.size)⟩
end Go.Proofs.Ytjnceoohlcchnaa.Print

/-! Rows of hints as cells. -/
namespace Go.Proofs.Ytjnceoohlcchnaa.Print
open Go Go.RowKit Go.Deep Go.Proofs.YtjnceoohlcchnaaW.PrintWords Go.Proofs.YtjnceoohlcchnaaW.PrintLast Go.Proofs.YtjnceoohlcchnaaW.PrintMore

def hintC (x : S31) : List Value := [.int .i64 x.f0, .int .i64 x.f1, .int .i64 x.f2]
def flatH : List S31 → List Value
  | [] => []
  | x :: l => hintC x ++ flatH l
theorem flat_len : ∀ l : List S31, (flatH l).length = l.length * 3
  | [] => rfl
  | x :: l => by rw [flatH, List.length_append, flat_len l, List.length_cons]; simp [hintC]; omega
theorem flat_app : ∀ a b : List S31, flatH (a ++ b) = flatH a ++ flatH b
  | [], b => rfl
  | x :: a, b => by rw [List.cons_append, flatH, flatH, flat_app a b, List.append_assoc]
theorem flat_split (l : List S31) (i : Nat) : flatH l = flatH (l.take i) ++ flatH (l.drop i) := by
  rw [← flat_app, List.take_append_drop]
theorem flat_take (l : List S31) (i : Nat) (h : i ≤ l.length) : (flatH l).take (i * 3) = flatH (l.take i) := by
  rw [flat_split l i, List.take_left' (by rw [flat_len, List.length_take]; omega)]
theorem flat_drop (l : List S31) (i : Nat) (h : i ≤ l.length) : (flatH l).drop (i * 3) = flatH (l.drop i) := by
  rw [flat_split l i, List.drop_left' (by rw [flat_len, List.length_take]; omega)]
theorem flat_one : ∀ (l : List S31), ∀ v ∈ flatH l, v.oneCell' = true
  | [], v, h => by cases h
  | x :: l, v, h => by
    rw [flatH] at h
    rcases List.mem_append.1 h with h | h
    · simp [hintC] at h
      rcases h with rfl | rfl | rfl <;> rfl
    · exact flat_one l v h
theorem reps_flat {R : S31 → List Value → Prop} (hR : ∀ x cs, R x cs → cs = hintC x) : ∀ (l : List S31) (cs : List Value), Reps R 3 l cs → cs = flatH l
  | [], cs, h => List.eq_nil_of_length_eq_zero (by simpa using h.1)
  | x :: l, cs, h => by
    have h0 := hR _ _ (h.2 0 x rfl)
    have ih := reps_flat hR l (cs.drop 3) ⟨by rw [List.length_drop, h.1, List.length_cons]; omega, fun j p hj => by
      have := h.2 (j + 1) p (by simpa using hj)
      rwa [show (j + 1) * 3 = 3 + j * 3 by omega, ← List.drop_drop] at this⟩
    rw [flatH, ← ih]
    simp at h0
    rw [← h0, List.take_append_drop]
theorem flat_reps {R : S31 → List Value → Prop} (hR : ∀ x, R x (hintC x)) (l : List S31) : Reps R 3 l (flatH l) := by
  refine ⟨flat_len l, fun j p hj => ?_⟩
  obtain ⟨hjl, rfl⟩ := List.getElem?_eq_some_iff.1 hj
  rw [flat_drop l j (by omega), List.drop_eq_getElem_cons hjl, flatH, List.take_left' (by rfl)]
  exact hR _
theorem R_flat {w : World} {base : Nat} {ok : Nat → Prop} {v : Value} {l : List S31} (h : Kd.R k31 31 w base ok v l) : w.ownsRow base 31 3 v l.length (flatH l) := by
  obtain ⟨_, inner, ho, hr⟩ := h
  have e := reps_flat (fun x cs hx => k31_openM hx) l inner hr
  rw [← e]
  exact ho
theorem flat_R {w : World} {base : Nat} {v : Value} {l : List S31} (h : w.ownsRow base 31 3 v l.length (flatH l)) : Kd.R k31 31 w base (fun _ => True) v l :=
  ⟨fun _ _ => trivial, flatH l, h, flat_reps (fun x => k31_mkM _ _ _ x) l⟩
/-- a copy of cells into a row, whatever the elements' size -/
theorem run_copy_rowk {P : Program} (w : World) (k : Nat) (dT sT ty elem : TypeId) (g o dLen dCap : Nat) (a : Addr) (sLen sCap : Nat) (cur : Array Value) (t : TypeId) (cs : List Value)
    (hu : P.underlying dT = some (.slice elem)) (hs : (P.info? elem).map (·.size) = some k)
    (hg : w.heap[g]? = some (.cells cur t (0, 0))) (hn : cs.length = Nat.min sLen dLen * k)
    (hsrc : ∀ j v, cs[j]? = some v → w.cell? (a.add j) = some v) (hfit : o + cs.length ≤ cur.size) (h1 : ∀ v ∈ cs, v.oneCell' = true) :
    (Builtin.copy_ #[dT, sT] ty #[.slice (some ⟨g, o, none⟩) dLen dCap, .slice (some a) sLen sCap]).run P w =
      .ok (goInt (Nat.min sLen dLen)) (w.setRow g (cur.toList.take o ++ cs ++ cur.toList.drop (o + cs.length)).toArray) := by
  have hl := run_loadCells_list (P := P) w a cs hsrc
  have hst := run_storeCells_at P g o t cs 0 cur w hg (by simpa using hfit) h1
  cases hq : P.info? elem with
  | none => simp [hq] at hs
  | some i =>
    have hi : i.size = k := by simpa [hq] using hs
    rw [hn] at hl
    simp [Builtin.copy_, run_underlying hu, Builtin.lenOf, Builtin.firstCells, sizeOf, typeInfo, hq, hi, hl, hst]
end Go.Proofs.Ytjnceoohlcchnaa.Print

/-! A hint put into a row of one's own. -/
namespace Go.Proofs.Ytjnceoohlcchnaa.Print
open Go Go.RowKit Go.Deep Go.Proofs.YtjnceoohlcchnaaW.PrintWords Go.Proofs.YtjnceoohlcchnaaW.PrintLast Go.Proofs.YtjnceoohlcchnaaW.PrintMore

theorem size_hint (w : World) : (Go.sizeOf 31).run Try.prog w = .ok 3 w := by
  obtain ⟨i0, hi, hz⟩ := Option.map_eq_some_iff.1 (show (Try.prog.info? 31).map (·.size) = some 3 from by kernel_rfl)
  simp [sizeOf, typeInfo, hi, hz]
theorem copy_hints (w : World) (ty : TypeId) (g o dLen dCap : Nat) (a : Addr) (sLen sCap : Nat) (cur : Array Value) (cs : List Value)
    (hg : w.heap[g]? = some (.cells cur 31 (0, 0))) (hn : cs.length = Nat.min sLen dLen * 3)
    (hsrc : ∀ j v, cs[j]? = some v → w.cell? (a.add j) = some v) (hfit : o + cs.length ≤ cur.size) (h1 : ∀ v ∈ cs, v.oneCell' = true) :
    (Builtin.copy_ #[34, 34] ty #[.slice (some ⟨g, o, none⟩) dLen dCap, .slice (some a) sLen sCap]).run Try.prog w =
      .ok (goInt (Nat.min sLen dLen)) (w.setRow g (cur.toList.take o ++ cs ++ cur.toList.drop (o + cs.length)).toArray) :=
  run_copy_rowk w 3 34 34 ty 31 g o dLen dCap a sLen sCap cur 31 cs Try.underlying34 (by kernel_rfl) hg hn hsrc hfit h1
theorem over_apart (w : World) (g gv o c : Nat) (cur : Array Value) (x : S31) (hg : w.heap[g]? = some (.cells cur 31 (0, 0))) (hcs : cur.size = c * 3) (hc : 0 < c) (hv : w.heap[gv]? = some (.cells (hintC x).toArray 31 (0, 0))) (hne : gv ≠ g) (lb cb : Nat) :
    (callFunc 109 #[.slice (some ⟨gv, 0, none⟩) 1 1, .slice (some ⟨g, o, none⟩) lb cb]).run Try.prog w = .ok (.value (.bool false)) w := by
  rw [run_callFunc_extern Try.func109 (by kernel_rfl) (by kernel_rfl) (by kernel_rfl) (e := Extern.SlicesOverlaps.overlaps #[34, 34] #[4]) (by kernel_rfl),
    Lib.run_overlaps_apart w 34 4 31 Try.underlying34 3 size_hint ⟨gv, 0, none⟩ ⟨g, o, none⟩ 1 1 lb cb hne 31 31 3 (c * 3)
      (by simp [World.shape?, hv, hintC]) (by simp [World.shape?, hg, hcs]) (by omega) (by simp [World.frozen?, hv]) (by simp [World.frozen?, hv])]
  rfl

theorem row_size (w : World) (g : Nat) (a b : Array Value) : w.heap.size ≤ ((w.drew.setRow g a).setRow g b).heap.size := by
  unfold World.setRow
  simp only [Array.size_modify]
  exact Nat.le_refl _
theorem grown_row2 (w : World) (g : Nat) (a b : Array Value) : w.grownBy ((w.drew.setRow g a).setRow g b) (some g) :=
  ⟨rfl, rfl, rfl, row_size w g a b, fun k _ hk => by
    have h : k ≠ g := fun e => hk (by rw [e])
    rw [setRow_other _ g k _ h, setRow_other _ g k _ h]
    rfl⟩
theorem below_row {B : Nat} {a w : World} (h : Below B a w) {g : Nat} (hg : B ≤ g) (cs : Array Value) : Below B a (w.setRow g cs) :=
  ⟨h.os, h.tape, h.output, by unfold World.setRow; simp only [Array.size_modify]; exact h.size, fun k hk => (setRow_other w g k cs (by omega)).trans (h.block k hk)⟩
/-- a row's cells with a hint put in -/
def insC (cur : List Value) (l : List S31) (i : Nat) (x : S31) : List Value :=
  let c1 := cur.take ((i + 1) * 3) ++ flatH (l.drop i) ++ cur.drop ((i + 1) * 3 + (flatH (l.drop i)).length)
  c1.take (i * 3) ++ hintC x ++ c1.drop (i * 3 + 3)
set_option maxRecDepth 100000 in
set_option maxHeartbeats 4000000 in
theorem insert_shift (g gv n c i : Nat) (l : List S31) (x : S31) (cur : Array Value) (w : World) (hi : i < n) (hroom : n + 1 ≤ c) (hc63 : c ≤ 9223372036854775807)
    (hg : w.heap[g]? = some (.cells cur 31 (0, 0))) (hcs : cur.size = c * 3) (hcur : cur.toList.take (n * 3) = flatH l) (hl : l.length = n) (hv : w.heap[gv]? = some (.cells (hintC x).toArray 31 (0, 0))) (hne : gv ≠ g) :
    Calls Try.prog 99 #[.slice (some ⟨g, 0, none⟩) n c, .int .i64 i, .slice (some ⟨gv, 0, none⟩) 1 1] w fun e w' => e = .returned (.slice (some ⟨g, 0, none⟩) (n + 1) c) ∧ ∃ w1, w1.heap[g]? = some (.cells (insC cur.toList l i x).toArray 31 (0, 0)) ∧ w.grownBy w1 (some g) ∧ w' = w1 := by
  have hov := over_apart w g gv ((i + 1) * 3) c cur x hg hcs (by omega) hv hne
  have hz2 : ¬ ((i : Int) = (n : Int)) := by omega
  have hdl : (flatH (l.drop i)).length = (n - i) * 3 := by rw [flat_len, List.length_drop, hl]
  obtain ⟨c1, hc1⟩ : ∃ c1, c1 = (cur.toList.take ((i + 1) * 3) ++ flatH (l.drop i) ++ cur.toList.drop ((i + 1) * 3 + (flatH (l.drop i)).length)).toArray := ⟨_, rfl⟩
  have hc1s : c1.size = c * 3 := by
    rw [hc1]
    simp only [List.size_toArray, List.length_append, List.length_take, List.length_drop, hdl, Array.length_toList, hcs]
    omega
  have hsrc : ∀ j v, (flatH (l.drop i))[j]? = some v → w.cell? ((⟨g, i * 3, none⟩ : Addr).add j) = some v := fun j v hj => by
    rw [Addr.add_lit, cell_of_row w g _ cur _ (0, 0) hg]
    rw [← flat_drop l i (by omega), List.getElem?_drop, ← hcur, List.getElem?_take] at hj
    split at hj
    · simpa using hj
    · cases hj
  have hcp1 : ∀ ty dc sc, (Builtin.copy_ #[34, 34] ty #[.slice (some ⟨g, (i + 1) * 3, none⟩) (n + 1 - (i + 1)) dc, .slice (some ⟨g, i * 3, none⟩) (n + 1 - i) sc]).run Try.prog w.drew = .ok (goInt ((n - i : Nat) : Int)) (w.drew.setRow g c1) := fun ty dc sc => by
    have h := copy_hints w.drew ty g ((i + 1) * 3) (n + 1 - (i + 1)) dc ⟨g, i * 3, none⟩ (n + 1 - i) sc cur (flatH (l.drop i)) hg (by rw [hdl]; simp only [Nat.min_def]; split <;> omega) hsrc (by rw [hdl, hcs]; omega) (flat_one _)
    rw [show Nat.min (n + 1 - i) (n + 1 - (i + 1)) = n - i by simp only [Nat.min_def]; split <;> omega, ← hc1] at h
    exact h
  obtain ⟨W1, hW1⟩ : ∃ W1, W1 = w.drew.setRow g c1 := ⟨_, rfl⟩
  have hW1g : W1.heap[g]? = some (.cells c1 31 (0, 0)) := by rw [hW1]; exact setRow_heap w.drew g cur c1 _ _ hg
  have hW1v : W1.heap[gv]? = some (.cells (hintC x).toArray 31 (0, 0)) := by
    rw [hW1, setRow_other w.drew g gv _ hne]
    exact hv
  have hcp2 : ∀ (W : World), W.heap = W1.heap → ∀ ty dc, (Builtin.copy_ #[34, 34] ty #[.slice (some ⟨g, i * 3, none⟩) (n + 1 - i) dc, .slice (some ⟨gv, 0, none⟩) 1 1]).run Try.prog W = .ok (goInt 1) (W.setRow g (insC cur.toList l i x).toArray) := fun W hW ty dc => by
    have h := copy_hints W ty g (i * 3) (n + 1 - i) dc ⟨gv, 0, none⟩ 1 1 c1 (hintC x) (by rw [hW]; exact hW1g) (by simp only [Nat.min_def, hintC]; split <;> simp <;> omega) (fun j v hj => by
      rw [Addr.add_lit, cell_of_row W gv _ (hintC x).toArray _ (0, 0) (by rw [hW]; exact hW1v)]
      simpa using hj) (by simp [hintC]; omega) (fun v hv => by simp [hintC] at hv; rcases hv with rfl | rfl | rfl <;> rfl)
    rw [show Nat.min 1 (n + 1 - i) = 1 by simp only [Nat.min_def]; split <;> omega] at h
    rw [h]
    congr 2
    rw [hc1]
    rfl
  rw [← hW1] at hcp1
  have mixed : Try.prog.follows Departure.mixedOrders = true := by kernel_rfl
  have hw1 : IntKind.i64.wrap ((i : Int) + 1) = (i : Int) + 1 := by rw [IntKind.wrap_i64]; omega
  have hb1 : (0 : Int) ≤ (i : Int) + 1 := by omega
  have hin : i ≤ n := by omega
  have htn : ((i : Int) + 1).toNat = i + 1 := by omega
  have hb2 : ¬ (c = i + 1) := by omega
  have hb3 : (i : Int) ≤ (n : Int) + 1 := by omega
  have hb5 : (i : Int) ≤ (n : Int) := by omega
  have hb4 : ¬ (c = i) := by omega
  have HW := Aside0.mk (And.intro hW1 (And.intro hW1g hg))
  clear hc1 hc1s hsrc hW1 hW1g hW1v hcur hcs hdl
  go_enter Try.func99, Try.ntmps99
  go_wp2_with (simp only [hov])
  go_region_law_o (refine step_copy_runI rfl _ _ 34 34 rfl (.slice (some ⟨g, (i + 1) * 3, none⟩) (n + 1 - (i + 1)) (c - (i + 1))) (.slice (some ⟨g, i * 3, none⟩) (n + 1 - i) (c - i)) (by simp [Act.eval, Act.put]) (by simp [Act.eval, Act.put]) (hcp1 _ _ _) ?_)
  go_wp2_with (at_builtin; refine wpList_copy_runI _ rfl _ _ 34 34 rfl _ _ rfl rfl (hcp2 _ rfl _ _) ?_)
  go_returns
  obtain ⟨e1, e2, e3⟩ := HW.out
  refine ⟨rfl, _, setRow_heap _ g c1 _ _ _ e2, ?_, rfl⟩
  rw [e1]
  exact grown_row2 w g c1 _

set_option maxRecDepth 100000 in
set_option maxHeartbeats 4000000 in
theorem insert_grow (g gv n c i : Nat) (l : List S31) (x : S31) (cur : Array Value) (w : World) (hi : i < n) (hnc : n ≤ c) (hroom : c < n + 1) (hbig : n ≤ 1000000000000)
    (hg : w.heap[g]? = some (.cells cur 31 (0, 0))) (hcur : cur.toList.take (n * 3) = flatH l) (hl : l.length = n) (hv : w.heap[gv]? = some (.cells (hintC x).toArray 31 (0, 0))) :
    Calls Try.prog 99 #[.slice (some ⟨g, 0, none⟩) n c, .int .i64 i, .slice (some ⟨gv, 0, none⟩) 1 1] w fun e w' => ∃ (G : Nat) (row : Array Value), e = .returned (.slice (some ⟨w.heap.size, 0, none⟩) (n + 1) G) ∧ n + 1 ≤ G ∧ G ≤ maxLen ∧ row.size = G * 3 ∧ row.toList.take ((n + 1) * 3) = flatH (l.take i ++ x :: l.drop i) ∧ w'.heap[w.heap.size]? = some (.cells row 31 (0, 0)) ∧ Below w.heap.size w w' := by
  obtain ⟨i0, hi0, hi1⟩ := Option.map_eq_some_iff.1 (show (Try.prog.info? 31).map (fun i => (i.zero, i.size, i.bytes)) = some (some (.agg #[.int .i64 0, .int .i64 0, .int .i64 0]), 3, 24) from info31)
  simp only [Prod.mk.injEq] at hi1
  obtain ⟨hz0, hzs, hzb⟩ := hi1
  have hc : c = n := by omega
  subst hc
  have hz2 : ¬ ((i : Int) = (c : Int)) := by omega
  have hz3 : (c : Int) < (c : Int) + 1 := by omega
  have hgw : g < w.heap.size := (Array.getElem?_eq_some_iff.1 hg).1
  have hvw : gv < w.heap.size := (Array.getElem?_eq_some_iff.1 hv).1
  have hkk : (c : Int) + 1 - (i : Int) = ((c + 1 - i : Nat) : Int) := by omega
  have hik : i + (c + 1 - i) = c + 1 := by omega
  have hold : (Builtin.firstCells i0.size i (.slice (some ⟨g, 0, none⟩) i c)).run Try.prog w.drew = .ok (flatH (l.take i)).toArray w.drew := by
    rw [hzs]
    exact run_firstCells_some w.drew 3 i ⟨g, 0, none⟩ i c (flatH (l.take i)) (by rw [flat_len, List.length_take]; omega) (fun j v hj => by
      rw [Addr.add_lit]
      rw [← flat_take l i (by omega), ← hcur, List.getElem?_take, List.getElem?_take] at hj
      show w.cell? ⟨g, 0 + j, none⟩ = some v
      rw [cell_of_row w g _ cur _ (0, 0) hg, Nat.zero_add]
      split at hj
      · split at hj
        · simpa using hj
        · cases hj
      · cases hj)
  have hrz : ∀ ty, (Builtin.append_ #[34, 3] ty #[.slice (some ⟨g, 0, none⟩) i c, .int .i64 ((c : Int) + 1 - (i : Int))]).run Try.prog w =
      .ok (.slice (some ⟨w.heap.size, 0, none⟩) (c + 1) (grownCap w (c + 1) c 31)) (w.drew.alloc (.cells ((flatH (l.take i)).toArray ++ Builtin.zeroCells (Value.agg #[.int .i64 0, .int .i64 0, .int .i64 0]).cells (c + 1 - i) ++ Builtin.zeroCells (Value.agg #[.int .i64 0, .int .i64 0, .int .i64 0]).cells (grownCap w (c + 1) c 31 - (c + 1))) 31)) := fun ty => by
    have h := Lib.run_append_grow_zeros w 34 3 ty 31 i0 _ .i64 .i64 Try.underlying34 Try.underlying3 hi0 hz0 (some ⟨g, 0, none⟩) i c (flatH (l.take i)) hold (c + 1 - i) (by omega) (by omega) (by omega) (by omega) (by rw [hzb]; omega) (by rw [hzb, hik]; exact growslice_fits hroom (by omega))
    rw [hik] at h
    rw [hkk]
    exact h
  obtain ⟨G, hG⟩ : ∃ G, G = grownCap w (c + 1) c 31 := ⟨_, rfl⟩
  obtain ⟨row, hrow⟩ : ∃ row : Array Value, row = (flatH (l.take i)).toArray ++ Builtin.zeroCells (Value.agg #[.int .i64 0, .int .i64 0, .int .i64 0]).cells (c + 1 - i) ++ Builtin.zeroCells (Value.agg #[.int .i64 0, .int .i64 0, .int .i64 0]).cells (G - (c + 1)) := ⟨_, rfl⟩
  rw [← hG, ← hrow] at hrz
  have hGn : c + 1 ≤ G := by rw [hG]; exact grownCap_ge w _ _ _
  have hGm : G ≤ maxLen := by rw [hG]; exact grownCap_le_maxLen w (c + 1) c _ (by unfold maxLen; omega)
  have hG63 : G ≤ 9223372036854775807 := by unfold maxLen at hGm; omega
  have hfl : (flatH (l.take i)).length = i * 3 := by rw [flat_len, List.length_take]; omega
  have hRs : row.size = G * 3 := by
    rw [hrow]
    simp [Builtin.zeroCells, Value.cells, hfl]
    omega
  have hRt : row.toList.take (i * 3) = flatH (l.take i) := by
    rw [hrow]
    simp only [Array.toList_append, List.append_assoc]
    rw [List.take_left' hfl]
  obtain ⟨W1, hW1⟩ : ∃ W1, W1 = w.drew.alloc (.cells row 31) := ⟨_, rfl⟩
  rw [← hW1] at hrz
  have hN : W1.heap[w.heap.size]? = some (.cells row 31 (0, 0)) := by rw [hW1]; exact heap_alloc_new w.drew _
  have hO : ∀ k, k < w.heap.size → W1.heap[k]? = w.heap[k]? := fun k hk => by rw [hW1]; exact (below_alloc (Below.refl w.drew.heap.size w.drew) _).block k hk
  have hdl : (flatH (l.drop i)).length = (c - i) * 3 := by rw [flat_len, List.length_drop, hl]
  obtain ⟨c1, hc1⟩ : ∃ c1, c1 = (row.toList.take (i * 3) ++ hintC x ++ row.toList.drop (i * 3 + 3)).toArray := ⟨_, rfl⟩
  have hc1s : c1.size = G * 3 := by
    rw [hc1]
    simp [hintC, hRs]
    omega
  have hcpA : ∀ (W : World), W.heap = W1.heap → ∀ ty dc, (Builtin.copy_ #[34, 34] ty #[.slice (some ⟨w.heap.size, i * 3, none⟩) (c + 1 - i) dc, .slice (some ⟨gv, 0, none⟩) 1 1]).run Try.prog W = .ok (goInt 1) (W.setRow w.heap.size c1) := fun W hW ty dc => by
    have h := copy_hints W ty w.heap.size (i * 3) (c + 1 - i) dc ⟨gv, 0, none⟩ 1 1 row (hintC x) (by rw [hW]; exact hN) (by simp only [Nat.min_def, hintC]; split <;> simp <;> omega) (fun j v hj => by
      rw [Addr.add_lit, cell_of_row W gv _ (hintC x).toArray _ (0, 0) (by rw [hW, hO gv hvw]; exact hv)]
      simpa using hj) (by simp [hintC]; omega) (fun v hv => by simp [hintC] at hv; rcases hv with rfl | rfl | rfl <;> rfl)
    rw [show Nat.min 1 (c + 1 - i) = 1 by simp only [Nat.min_def]; split <;> omega] at h
    rw [h, hc1]
    rfl
  obtain ⟨c2, hc2⟩ : ∃ c2, c2 = (c1.toList.take ((i + 1) * 3) ++ flatH (l.drop i) ++ c1.toList.drop ((i + 1) * 3 + (flatH (l.drop i)).length)).toArray := ⟨_, rfl⟩
  have hcpB : ∀ (W : World), W.heap = (W1.setRow w.heap.size c1).heap → ∀ ty dc sc, (Builtin.copy_ #[34, 34] ty #[.slice (some ⟨w.heap.size, (i + 1) * 3, none⟩) (c + 1 - (i + 1)) dc, .slice (some ⟨g, i * 3, none⟩) (c - i) sc]).run Try.prog W = .ok (goInt ((c - i : Nat) : Int)) (W.setRow w.heap.size c2) := fun W hW ty dc sc => by
    have hWg : W.heap[g]? = some (.cells cur 31 (0, 0)) := by rw [hW, setRow_other _ _ _ _ (by omega), hO g hgw]; exact hg
    have h := copy_hints W ty w.heap.size ((i + 1) * 3) (c + 1 - (i + 1)) dc ⟨g, i * 3, none⟩ (c - i) sc c1 (flatH (l.drop i)) (by rw [hW]; exact setRow_heap _ _ row c1 _ _ hN) (by rw [hdl]; simp only [Nat.min_def]; split <;> omega) (fun j v hj => by
      rw [Addr.add_lit, cell_of_row W g _ cur _ (0, 0) hWg]
      rw [← flat_drop l i (by omega), List.getElem?_drop, ← hcur, List.getElem?_take] at hj
      split at hj
      · simpa using hj
      · cases hj) (by rw [hdl, hc1s]; omega) (flat_one _)
    rw [show Nat.min (c - i) (c + 1 - (i + 1)) = c - i by simp only [Nat.min_def]; split <;> omega, ← hc2] at h
    exact h
  have hfin : c2.size = G * 3 ∧ c2.toList.take ((c + 1) * 3) = flatH (l.take i ++ x :: l.drop i) := by
    have ec1 : c1.toList.take ((i + 1) * 3) = flatH (l.take i) ++ hintC x := by
      rw [hc1, hRt]
      rw [List.take_left' (by rw [List.length_append, hfl]; simp [hintC]; omega)]
    refine ⟨?_, ?_⟩
    · rw [hc2]
      simp only [List.size_toArray, List.length_append, List.length_take, List.length_drop, hdl, Array.length_toList, hc1s]
      omega
    · rw [hc2]
      show (c1.toList.take ((i + 1) * 3) ++ flatH (l.drop i) ++ c1.toList.drop ((i + 1) * 3 + (flatH (l.drop i)).length)).take ((c + 1) * 3) = _
      rw [ec1, List.take_left' (by rw [List.length_append, List.length_append, hfl, hdl]; simp [hintC]; omega), flat_app, flatH, List.append_assoc]
  have mixed : Try.prog.follows Departure.mixedOrders = true := by kernel_rfl
  have hw1 : IntKind.i64.wrap ((i : Int) + 1) = (i : Int) + 1 := by rw [IntKind.wrap_i64]; omega
  have hb1 : (0 : Int) ≤ (i : Int) + 1 := by omega
  have hin : i ≤ c := by omega
  have htn : ((i : Int) + 1).toNat = i + 1 := by omega
  have hb3 : (i : Int) ≤ (c : Int) := by omega
  have hGi : ¬ (G = i) := by omega
  have hGim : ¬ (G = i + 1) := by omega
  have hci : ¬ (c = i) := by omega
  have HF := Aside0.mk hfin
  have HR := Aside0.mk (And.intro hRs (And.intro hW1 hN))
  have HX : Aside0 (c + 1 ≤ G ∧ G ≤ maxLen) := ⟨hGn, hGm⟩
  have hE : ∀ (q : World), q = w.alloc (.cells row 31) → q.drew.heap = W1.heap := fun q hq => by rw [hq, hW1]; rfl
  clear hkk hik hold hrow hG hc1 hc2 hRt hfl hdl hfin hRs hN hO
  subst hW1
  have hE1 : (w.alloc (.cells row 31)).drew.heap = (w.drew.alloc (.cells row 31)).heap := rfl
  have hF1 : (((w.alloc (.cells row 31)).drew.setRow w.heap.size c1).drew).heap = ((w.drew.alloc (.cells row 31)).setRow w.heap.size c1).heap := rfl
  go_enter Try.func99, Try.ntmps99
  go_wp2_with (first
    | (at_builtin; refine Lib.wpList_append_run _ rfl _ _ _ _ rfl _ _ rfl rfl _ _ (hrz _) ?_)
    | (at_builtin; refine wpList_copy_runI _ rfl _ _ 34 34 rfl _ _ rfl rfl (hcpA _ hE1 _ _) ?_))
  go_region_law_o (refine step_copy_runI rfl _ _ 34 34 rfl (.slice (some ⟨w.heap.size, (i + 1) * 3, none⟩) (c + 1 - (i + 1)) (G - (i + 1))) (.slice (some ⟨g, i * 3, none⟩) (c - i) (c - i)) (by simp [Act.eval, Act.put]) (by simp [Act.eval, Act.put]) (hcpB _ hF1 34 (G - (i + 1)) (c - i)) ?_)
  go_wp2
  go_returns
  obtain ⟨hRs, _, hN⟩ := HR.out
  refine ⟨G, c2, rfl, HX.out.1, HX.out.2, HF.out.1, HF.out.2, ?_, ?_⟩
  · exact setRow_heap _ _ c1 c2 _ _ (setRow_heap (w.drew.alloc (.cells row 31)) _ row c1 _ _ hN)
  · exact below_row (Below.drew (below_row (Below.drew (below_alloc (Below.refl _ _) _)) (Nat.le_refl _) _)) (Nat.le_refl _) _

/-- a list with a hint put in at a place -/
def insL (l : List S31) (i : Nat) (x : S31) : List S31 := l.take i ++ x :: l.drop i
theorem ins_len (l : List S31) (i : Nat) (x : S31) (h : i ≤ l.length) : (insL l i x).length = l.length + 1 := by
  unfold insL
  rw [List.length_append, List.length_take, List.length_cons, List.length_drop]
  omega
theorem insC_take (cur : List Value) (l : List S31) (n c i : Nat) (x : S31) (hi : i < n) (hroom : n + 1 ≤ c) (hcs : cur.length = c * 3) (hcur : cur.take (n * 3) = flatH l) (hl : l.length = n) :
    (insC cur l i x).length = c * 3 ∧ (insC cur l i x).take ((n + 1) * 3) = flatH (insL l i x) := by
  have hdl : (flatH (l.drop i)).length = (n - i) * 3 := by rw [flat_len, List.length_drop, hl]
  have hfl : (flatH (l.take i)).length = i * 3 := by rw [flat_len, List.length_take]; omega
  have ht : cur.take (i * 3) = flatH (l.take i) := by
    rw [← flat_take l i (by omega), ← hcur, List.take_take, Nat.min_eq_left (by omega)]
  obtain ⟨c1, hc1⟩ : ∃ c1, c1 = cur.take ((i + 1) * 3) ++ flatH (l.drop i) ++ cur.drop ((i + 1) * 3 + (flatH (l.drop i)).length) := ⟨_, rfl⟩
  have hc1l : c1.length = c * 3 := by
    rw [hc1]
    simp only [List.length_append, List.length_take, List.length_drop, hdl, hcs]
    omega
  have e1 : c1.take (i * 3) = flatH (l.take i) := by
    rw [hc1, List.append_assoc, List.take_append_of_le_length (by rw [List.length_take]; omega), List.take_take, Nat.min_eq_left (by omega), ht]
  have e2 : c1.drop (i * 3 + 3) = flatH (l.drop i) ++ cur.drop ((i + 1) * 3 + (flatH (l.drop i)).length) := by
    rw [hc1, List.append_assoc, List.drop_left' (by rw [List.length_take]; omega)]
  have e : insC cur l i x = flatH (l.take i) ++ hintC x ++ (flatH (l.drop i) ++ cur.drop ((i + 1) * 3 + (flatH (l.drop i)).length)) := by
    unfold insC
    simp only
    rw [← hc1, e1, e2]
  rw [e]
  refine ⟨?_, ?_⟩
  · simp only [List.length_append, List.length_drop, hdl, hfl, hcs, hintC, List.length_cons, List.length_nil]
    omega
  · rw [← List.append_assoc, List.take_left' (by rw [List.length_append, List.length_append, hfl, hdl]; simp [hintC]; omega), insL, flat_app, flatH, List.append_assoc]
end Go.Proofs.Ytjnceoohlcchnaa.Print

/-! A list with a hint: put. -/
namespace Go.Proofs.Ytjnceoohlcchnaa.Print
open Go Go.RowKit Go.Deep Go.Proofs.YtjnceoohlcchnaaW.PrintWords Go.Proofs.YtjnceoohlcchnaaW.PrintLast Go.Proofs.YtjnceoohlcchnaaW.PrintMore

theorem C_one {w : World} {g : Nat} {x : S31} (h : w.heap[g]? = some (.cells (hintC x).toArray 31 (0, 0))) : Kd.C k31 w (some ⟨g, 0, none⟩) 1 [x] := by
  refine ⟨rfl, by omega, fun _ => ⟨⟨g, 0, none⟩, rfl, fun j p hj => ?_⟩⟩
  match j, hj with
  | 0, hj =>
    simp at hj
    subst hj
    refine ⟨hintC x, rfl, k31_mk w x, fun i u hu => ?_⟩
    rw [Addr.add_lit, cell_of_row w g _ (hintC x).toArray _ (0, 0) h]
    simpa using hu
  | j + 1, hj => simp at hj
set_option maxRecDepth 100000 in
theorem insert_end (A : Option Addr) (c gv base : Nat) (l : List S31) (x : S31) (w : World) (HO : Kd.R k31 31 w base (fun _ => True) (.slice A l.length c) l)
    (hv : w.heap[gv]? = some (.cells (hintC x).toArray 31 (0, 0))) (hb : base ≤ w.heap.size) (hl : l.length ≤ 1000000000000) :
    Calls Try.prog 99 #[.slice A l.length c, .int .i64 l.length, .slice (some ⟨gv, 0, none⟩) 1 1] w fun e w' => ∃ v, e = .returned v ∧ Kd.R k31 31 w' base (fun _ => True) v (insL l l.length x) ∧ Below base w w' := by
  have HV := Aside0.mk (C_one hv)
  have HOO := Aside0.mk HO
  obtain ⟨_, hc, _⟩ := Kd.R_reads' HO
  clear HO hv
  go_enter Try.func99, Try.ntmps99
  go_wp2_with (at_builtin; refine Kd.R_append_rows k31 (w0 := w) base rfl (.tmp 23) (.tmp 24) 34 31 (.agg #[(.int .i64 0), (.int .i64 0), (.int .i64 0)]) 24 rfl Try.underlying34 info31 rfl (by decide) (by omega) (.slice A l.length c) l [x] (some ⟨gv, 0, none⟩) 1 1 (fun _ => True) (fun _ => False) rfl rfl HOO.out HV.out (fun _ _ h => h) (fun _ h => h.elim) (fun _ _ => trivial) (Below.refl _ _) hb (by omega) ?_)
  all_goals
    intro v1 w1 hR hB _ _
    have HR1 := Aside0.mk hR
    have HB1 := Aside0.mk hB
    clear hR hB
    go_wp2_with fail
    go_returns
    refine ⟨v1, rfl, ?_, HB1.out⟩
    have h := HR1.out
    unfold insL
    rw [List.take_length, List.drop_length]
    exact h
theorem insert_any (A : Option Addr) (n c i gv base : Nat) (l : List S31) (x : S31) (w : World) (hn : n = l.length) (HO : Kd.R k31 31 w base (fun _ => True) (.slice A n c) l) (hi : i ≤ l.length)
    (hv : w.heap[gv]? = some (.cells (hintC x).toArray 31 (0, 0))) (hne : some gv ≠ (Value.slice A n c).ownBlock) (hb : base ≤ w.heap.size) (hl : l.length ≤ 1000000000000) :
    Calls Try.prog 99 #[.slice A n c, .int .i64 i, .slice (some ⟨gv, 0, none⟩) 1 1] w fun e w' => ∃ v, e = .returned v ∧ Kd.R k31 31 w' base (fun _ => True) v (insL l i x) ∧ Below base w w' := by
  subst hn
  by_cases he : i = l.length
  · subst he
    exact insert_end A c gv base l x w HO hv hb hl
  have hlt : i < l.length := by omega
  rcases (R_flat HO).2 with ⟨_, h0⟩ | ⟨g, cap, cur, hvv, hbg, hg, hnc, hcm, hcs, hcur⟩
  · omega
  · simp only [Value.slice.injEq] at hvv
    obtain ⟨rfl, _, rfl⟩ := hvv
    have hgv : gv ≠ g := fun e => hne (by rw [e]; rfl)
    have hc63 : c ≤ 9223372036854775807 := by unfold maxLen at hcm; omega
    by_cases hroom : l.length + 1 ≤ c
    · refine (insert_shift g gv l.length c i l x cur w hlt hroom hc63 hg hcs hcur rfl hv hgv).mono ?_
      rintro e w' ⟨rfl, w1, h1, hgr, rfl⟩
      obtain ⟨e1, e2⟩ := insC_take cur.toList l l.length c i x hlt hroom (by rw [Array.length_toList]; exact hcs) hcur rfl
      refine ⟨_, rfl, flat_R ⟨flat_len _, .inr ⟨g, c, _, ?_, hbg, h1, ?_, hcm, ?_, ?_⟩⟩, (Below.refl base w).grown hgr hb (fun k hk => by cases hk; exact hbg)⟩
      · rw [ins_len l i x hi]
      · rw [ins_len l i x hi]; exact hroom
      · simpa using e1
      · rw [ins_len l i x hi]; exact e2
    · refine (insert_grow g gv l.length c i l x cur w hlt hnc (by omega) hl hg hcur rfl hv).mono ?_
      rintro e w' ⟨G, row, rfl, hG1, hG2, hr1, hr2, hN, hB⟩
      refine ⟨_, rfl, flat_R ⟨flat_len _, .inr ⟨w.heap.size, G, row, ?_, hb, hN, ?_, hG2, hr1, ?_⟩⟩, hB.mono hb⟩
      · rw [ins_len l i x hi]
      · rw [ins_len l i x hi]; exact hG1
      · rw [ins_len l i x hi]; exact hr2

/-- a list with a hint in the place of what it had of the object -/
def putL (l : List S31) (x : S31) : List S31 := insL (withoutL l x.f0) (atI (withoutL l x.f0) x.f0) x
theorem atI_le (l : List S31) (oid : Int) : atI l oid ≤ l.length := (bsL_le l oid l.length 0 l.length (Nat.zero_le _)).2
set_option maxRecDepth 100000 in
theorem put_any (A : Option Addr) (c : Nat) (l : List S31) (x : S31) (w : World) (hr : Kd.C k31 w A l.length l) (hc : l.length ≤ c) (hl : l.length ≤ 1000000000000) :
    Calls Try.prog 68 #[.slice A l.length c, .agg #[.int .i64 x.f0, .int .i64 x.f1, .int .i64 x.f2]] w fun e w' => ∃ v, e = .returned v ∧ FreshH w w' v (putL l x) := by
  have HR := Aside0.mk hr
  clear hr
  go_enter Try.func68, Try.ntmps68
  go_wp2_with fail
  obtain ⟨g, hg⟩ : ∃ g, g = w.heap.size := ⟨_, rfl⟩
  rw [← hg]
  obtain ⟨w1, hw1⟩ : ∃ w1, w1 = w.alloc (Obj.cells #[Value.int IntKind.i64 x.f0, Value.int IntKind.i64 x.f1, Value.int IntKind.i64 x.f2] 31) := ⟨_, rfl⟩
  rw [← hw1]
  have HB1 : Aside0 (Below w.heap.size w w1) := ⟨by rw [hw1]; exact below_alloc (Below.refl _ _) _⟩
  have HQ1 : Aside0 (w1.heap[g]? = some (.cells #[.int .i64 x.f0, .int .i64 x.f1, .int .i64 x.f2] 31 (0, 0))) := ⟨by rw [hw1, hg]; exact heap_alloc_new _ _⟩
  clear hw1 hg
  refine (without_any A c l x.f0 w1 (Kd.C_below HR.out HB1.out) hc hl).mono ?_
  rintro e w2 ⟨v2, rfl, hR2, hB⟩
  obtain ⟨A2, c2, rfl⟩ := Kd.R_slice hR2
  have HO2 := Aside0.mk (Kd.R_lower hR2 HB1.out.size)
  have HQ2 := Aside0.mk (blk_below HQ1.out hB)
  have HB2 : Aside0 (Below w.heap.size w w2) := ⟨HB1.out.trans (hB.mono HB1.out.size)⟩
  have HLN : Aside0 ((withoutL l x.f0).length ≤ 1000000000000) := ⟨Nat.le_trans (without_len _ _) hl⟩
  clear hR2 hB HQ1 HB1
  obtain ⟨k0, k1, k2, f0, f1, f2⟩ := blk3 HQ2.out
  go_wp2_with fail
  obtain ⟨_, hc2, hC2⟩ := Kd.R_reads' HO2.out
  refine (at_any A2 c2 (withoutL l x.f0) x.f0 w2 hC2 hc2 HLN.out).mono ?_
  rintro e w3 ⟨rfl, hB⟩
  have HO3 := Aside0.mk (Kd.R_below HO2.out hB)
  have HQ3 := Aside0.mk (blk_below HQ2.out hB)
  have HB3 : Aside0 (Below w.heap.size w w3) := ⟨HB2.out.trans (hB.mono HB2.out.size)⟩
  obtain ⟨i, hI⟩ : ∃ i, i = atI (withoutL l x.f0) x.f0 := ⟨_, rfl⟩
  have hle := atI_le (withoutL l x.f0) x.f0
  rw [← hI] at hle ⊢
  have HI := Aside0.mk (And.intro hI hle)
  clear hB HO2 HQ2 HB2 hC2 hI hle k0 k1 k2 f0 f1 f2
  obtain ⟨k0, k1, k2, f0, f1, f2⟩ := blk3 HQ3.out
  have hu := Try.underlying31
  go_wp2_with fail
  obtain ⟨w4, hw4⟩ : ∃ w4, w4 = w3.alloc (Obj.cells #[Value.int IntKind.i64 x.f0, Value.int IntKind.i64 x.f1, Value.int IntKind.i64 x.f2] 31) := ⟨_, rfl⟩
  rw [← hw4]
  obtain ⟨gv, hgv⟩ : ∃ gv, gv = w3.heap.size := ⟨_, rfl⟩
  rw [← hgv]
  have hB : Below w3.heap.size w3 w4 := by rw [hw4]; exact below_alloc (Below.refl _ _) _
  have hV : w4.heap[gv]? = some (.cells (hintC x).toArray 31 (0, 0)) := by rw [hw4, hgv]; exact heap_alloc_new _ _
  have hne : some gv ≠ (Value.slice A2 (withoutL l x.f0).length c2).ownBlock := fun e => by
    have := Kd.R_lt HO3.out gv e.symm
    omega
  refine (insert_any A2 (withoutL l x.f0).length c2 i gv w.heap.size (withoutL l x.f0) x w4 rfl (Kd.R_below HO3.out hB) HI.out.2 hV hne (Nat.le_trans HB3.out.size hB.size) HLN.out).mono ?_
  rintro e w5 ⟨v5, rfl, hR5, hB5⟩
  have HF := Aside0.mk hR5
  have HB5 : Aside0 (Below w.heap.size w w5) := ⟨(HB3.out.trans (hB.mono HB3.out.size)).trans hB5⟩
  clear hR5 hB5 hV hne hw4 hgv hB
  go_wp2_with fail
  go_returns
  refine ⟨v5, rfl, ?_, HB5.out⟩
  unfold putL
  rw [← HI.out.1]
  exact HF.out
end Go.Proofs.Ytjnceoohlcchnaa.Print
