/- What the disk's small functions and its reader of records compute, and how a head's chain is read: contracts of these functions, whatever the input. -/
import Derived.WalkKit
import Derived.Maps.Own
import Derived.ChangeMaps5
import Derived.Deep.WholeRow
import Derived.ChangeKeysEq
import Derived.Test.YtcdpkdehogcjnaaGreatV
import Derived.Test.YtcdpkdehogcjnaaGreatR0
import Derived.WalkLawsBesides
import Derived.Handy
import Derived.Deep.RegionWith
import Derived.RegionDies
import Derived.Laws.CopyOwn
import Derived.Deep.DeepCutAuto
import Derived.Deep.CutBlock
set_option linter.unusedVariables false
set_option linter.unusedSimpArgs false
namespace Go.Proofs.YtcdpkdehogcjnaaGreat.Print
set_option linter.unusedSectionVars false
open Go.RowKit Go.MapKept
structure KeyEnc (P : Program) (kt : TypeId) (κ : Type) [DecidableEq κ] (enc : κ → Value) : Prop where
 same : ∃ d, P.underlying kt = some d ∧ ∀ a b, Instr.sameNow d (enc a) (enc b) = some (decide (a = b))
 chk : ∀ empty a w, (Instr.checkKey empty 10000 kt (enc a)).run P w = .ok () w
 bits : ∀ a, Instr.sameBits 10000 (enc a) (enc a) = true
def mget {κ β : Type} [DecidableEq κ] (m : List (κ × β)) (k : κ) : Option β := (m.find? (fun p => decide (k = p.1))).map (·.2)
def mput {κ β : Type} [DecidableEq κ] : List (κ × β) → κ → β → List (κ × β)
 | [], k, v => [(k, v)]
 | (k', v') :: m, k, v => if k = k' then (k', v) :: m else (k', v') :: mput m k v
theorem mget_put {κ β : Type} [DecidableEq κ] (m : List (κ × β)) (k : κ) (v : β) (j : κ) : mget (mput m k v) j = if j = k then some v else mget m j := by
 induction m with
 | nil => by_cases h : j = k <;> simp [mget, mput, h]
 | cons p m ih =>
  obtain ⟨k', v'⟩ := p
  unfold mput
  by_cases hk : k = k'
  ·subst hk
   by_cases h : j = k
   ·simp [mget, h]
   ·simp [mget, h]
  ·rw [if_neg hk]
   by_cases h : j = k'
   ·subst h; rw [if_neg (fun e => hk e.symm)]; simp [mget]
   ·have e1 : mget ((k', v') :: mput m k v) j = mget (mput m k v) j := by simp [mget, h]
    have e2 : mget ((k', v') :: m) j = mget m j := by simp [mget, h]
    rw [e1, e2, ih]
theorem mput_len {κ β : Type} [DecidableEq κ] (m : List (κ × β)) (k : κ) (v : β) : (mput m k v).length ≤ m.length + 1 := by
 induction m with
 | nil => simp [mput]
 | cons p m ih => obtain ⟨k', v'⟩ := p; unfold mput; split <;> simp; omega
def MapAt {κ : Type} (enc : κ → Value) (w : World) (b : Nat) (m : List (κ × Value)) : Prop :=
 ∃ es clock, w.heap[b]? = some (.map es clock) ∧ es.toList.map (fun e => (e.key, e.val)) = m.map (fun p => (enc p.1, p.2))
section
variable {P : Program} {kt t e : TypeId} {κ : Type} [DecidableEq κ] {enc : κ → Value} {w w1 : World} {b : Nat} {m : List (κ × Value)}
theorem MapAt.lt (h : MapAt enc w b m) : b < w.heap.size := by obtain ⟨_, _, h, _⟩ := h; exact (Array.getElem?_eq_some_iff.1 h).1
theorem MapAt.move (h : MapAt enc w b m) (hb : w1.heap[b]? = w.heap[b]?) : MapAt enc w1 b m := by
 obtain ⟨es, c, h, e⟩ := h; exact ⟨es, c, hb.trans h, e⟩
theorem MapAt.made (w : World) : MapAt enc (w.alloc (.map #[] 0)) w.heap.size [] := ⟨#[], 0, heap_alloc_new w _, rfl⟩
theorem findNow_map {d : TypeDesc} (hs : ∀ a b, Instr.sameNow d (enc a) (enc b) = some (decide (a = b))) (k : κ) :
  ∀ (es : List MapEntry) (m : List (κ × Value)) (i : Nat), es.map (fun e => (e.key, e.val)) = m.map (fun p => (enc p.1, p.2)) →
   Instr.findNow d (enc k) es i = some ((mget m k).map fun v => (i + m.findIdx (fun p => decide (k = p.1)), v))
 | [], m, i, h => by
  have : m = [] := by cases m with | nil => rfl | cons _ _ => simp at h
  subst this; rfl
 | e :: es, m, i, h => by
  cases m with
  | nil => simp at h
  | cons p m =>
   obtain ⟨k', v'⟩ := p
   simp only [List.map_cons, List.cons.injEq, Prod.mk.injEq] at h
   obtain ⟨⟨h1, h2⟩, h3⟩ := h
   unfold Instr.findNow
   rw [h1, hs]
   by_cases hk : k = k'
   ·subst hk; simp [mget, h2, List.findIdx_cons]
   ·have := findNow_map hs k es m (i + 1) h3
    simp only [hk, decide_false]
    rw [this]
    simp only [mget, List.find?_cons, hk, decide_false, List.findIdx_cons, cond_false]
    congr 1
    cases (List.find? (fun p => decide (k = p.1)) m) <;> simp; omega
theorem run_lookup (K : KeyEnc P kt κ enc) (ht : P.underlying t = some (.map kt e)) (h : MapAt enc w b m) (k : κ) {z : Value} (hz : (zeroValue e).run P w = .ok z w) :
  (Instr.lookup t (.map (some b)) (enc k) false).run P w = .ok ((mget m k).getD z) w := by
 obtain ⟨es, c, hb, hm⟩ := h
 obtain ⟨d, hd, hs⟩ := K.same
 have hf := findNow_map hs k es.toList m 0 hm
 simp only [Instr.lookup, Instr.findKey]
 simp [run_underlying ht, run_underlying hd, MapKept.run_getObj_map hb, K.chk, hf, Result.andThen]
 cases hg : mget m k with
 | none => simp [hz, Result.andThen]
 | some v => simp [Result.andThen]
theorem run_lookup_ok (K : KeyEnc P kt κ enc) (ht : P.underlying t = some (.map kt e)) (h : MapAt enc w b m) (k : κ) {z : Value} (hz : (zeroValue e).run P w = .ok z w) :
  (Instr.lookup t (.map (some b)) (enc k) true).run P w = .ok (.tuple #[(mget m k).getD z, .bool (mget m k).isSome]) w := by
 obtain ⟨es, c, hb, hm⟩ := h
 obtain ⟨d, hd, hs⟩ := K.same
 have hf := findNow_map hs k es.toList m 0 hm
 simp only [Instr.lookup, Instr.findKey]
 simp [run_underlying ht, run_underlying hd, MapKept.run_getObj_map hb, K.chk, hf, Result.andThen]
 cases hg : mget m k with
 | none => simp [hz, Result.andThen]
 | some v => simp [Result.andThen]
theorem findIdx_lt (m : List (κ × Value)) (k : κ) {v : Value} (h : mget m k = some v) : ∃ p, m[m.findIdx (fun p => decide (k = p.1))]? = some p ∧ p.1 = k := by
 induction m with
 | nil => simp [mget] at h
 | cons p m ih =>
  by_cases hk : k = p.1
  ·exact ⟨p, by simp [List.findIdx_cons, hk], hk.symm⟩
  ·have e : mget (p :: m) k = mget m k := by simp [mget, hk]
   obtain ⟨q, h1, h2⟩ := ih (by rw [← e]; exact h)
   exact ⟨q, by simpa [List.findIdx_cons, hk] using h1, h2⟩
theorem mput_some (m : List (κ × Value)) (k : κ) (v : Value) {u : Value} (h : mget m k = some u) : (mput m k v).map (fun p => (enc p.1, p.2)) = (m.map (fun p => (enc p.1, p.2))).modify (m.findIdx (fun p => decide (k = p.1))) (fun _ => (enc k, v)) := by
 induction m with
 | nil => simp [mget] at h
 | cons p m ih =>
  obtain ⟨k', v'⟩ := p
  unfold mput
  by_cases hk : k = k'
  ·subst hk; simp [List.findIdx_cons]
  ·have e : mget ((k', v') :: m) k = mget m k := by simp [mget, hk]
   rw [if_neg hk]
   simp only [List.map_cons, List.findIdx_cons, hk, decide_false, cond_false, List.modify_succ_cons]
   rw [ih (by rw [← e]; exact h)]
theorem mput_none (m : List (κ × Value)) (k : κ) (v : Value) (h : mget m k = none) : mput m k v = m ++ [(k, v)] := by
 induction m with
 | nil => rfl
 | cons p m ih =>
  obtain ⟨k', v'⟩ := p
  unfold mput
  by_cases hk : k = k'
  ·subst hk; simp [mget] at h
  ·have e : mget ((k', v') :: m) k = mget m k := by simp [mget, hk]
   rw [if_neg hk, ih (by rw [← e]; exact h)]; rfl
theorem run_mapUpdate (K : KeyEnc P kt κ enc) (ht : P.underlying t = some (.map kt e)) (h : MapAt enc w b m) (k : κ) (v : Value) :
  ∃ w', (Instr.mapUpdate t (.map (some b)) (enc k) v).run P w = .ok () w' ∧ MapAt enc w' b (mput m k v) ∧ w.grownBy w' (some b) := by
 obtain ⟨es, c, hb, hm⟩ := h
 obtain ⟨d, hd, hs⟩ := K.same
 have hf := findNow_map hs k es.toList m 0 hm
 have hgr : ∀ o : Obj, w.grownBy (Go.ChangeMaps.setBlock w b o) (some b) := fun o => ⟨rfl, rfl, rfl, by simp [Go.ChangeMaps.setBlock], fun i _ hi => Go.ChangeMaps.heap_setBlock_other hb _ (fun e => hi (by rw [e]))⟩
 cases hg : mget m k with
 | none =>
  rw [hg] at hf
  refine ⟨Go.ChangeMaps.setBlock w b (.map (es.push { key := enc k, val := v, born := c }) (c + 1)), ?_, ⟨_, _, Go.ChangeMaps.heap_setBlock_same hb _, ?_⟩, hgr _⟩
  ·simp only [Instr.mapUpdate, Instr.findKey]
   simp [run_underlying ht, run_underlying hd, MapKept.run_getObj_map hb, K.chk, hf, Result.andThen, MapKept.run_setObj_map _ hb]
   rfl
  ·rw [mput_none m k v hg]; simp [hm]
 | some u =>
  rw [hg] at hf
  obtain ⟨p, hp1, hp2⟩ := findIdx_lt m k hg
  have hp3 : (es.toList.map (fun e => (e.key, e.val)))[m.findIdx (fun p => decide (k = p.1))]? = some (enc p.1, p.2) := by rw [hm, List.getElem?_map, hp1]; rfl
  rw [List.getElem?_map] at hp3
  obtain ⟨en, he1, he2⟩ := Option.map_eq_some_iff.1 hp3
  have hk1 : en.key = enc k := by rw [← hp2]; exact congrArg Prod.fst he2
  have he1' : es[m.findIdx (fun p => decide (k = p.1))]? = some en := by simpa using he1
  have hst : (Instr.keyThatStays (enc k) (enc k)).run P w = .ok (enc k) w := by simp [Instr.keyThatStays, K.bits]
  refine ⟨Go.ChangeMaps.setBlock w b (.map (es.modify (m.findIdx (fun p => decide (k = p.1))) fun e => { e with key := enc k, val := v }) c), ?_, ⟨_, _, Go.ChangeMaps.heap_setBlock_same hb _, ?_⟩, hgr _⟩
  ·simp only [Instr.mapUpdate, Instr.findKey]
   simp [run_underlying ht, run_underlying hd, MapKept.run_getObj_map hb, K.chk, hf, Result.andThen, MapKept.run_setObj_map _ hb, he1', hk1, hst]
   rfl
  ·rw [mput_some m k v hg, ← hm]
   simp only [Array.toList_modify]
   apply List.ext_getElem?
   intro i
   simp only [List.getElem?_map, List.getElem?_modify]
   split <;> simp_all <;> cases es[i]? <;> rfl
end
/-- integer keys -/
def kInt (k : Int) : Value := .int .i64 k
theorem chk_int {P : Program} {kt : TypeId} (h : P.underlying kt = some (.int .i64)) (empty : Bool) (a : Int) (w : World) (n : Nat) : (Instr.checkKey empty (n + 1) kt (.int .i64 a)).run P w = .ok () w := by
 simp [Instr.checkKey, run_underlying h]
theorem bits_int (a : Int) (n : Nat) : Instr.sameBits n (.int .i64 a) (.int .i64 a) = true := by unfold Instr.sameBits; simp
theorem kInt_enc {P : Program} {kt : TypeId} (h : P.underlying kt = some (.int .i64)) : KeyEnc P kt Int kInt where
 same := ⟨_, h, fun a b => by simp [Instr.sameNow, kInt]; rfl⟩
 chk := fun empty a w => chk_int h empty a w 9999
 bits := fun a => bits_int a 10000
open Go.RowKit Go.Proofs.YtcdpkdehogcjnaaGreatW.PrintWords
def rowAt (w : World) (a : Addr) (n : Nat) : Option (List Value) := (List.range n).mapM fun j => w.cell? (a.add j)
theorem rowAt_some {w : World} {a : Addr} {n : Nat} {cs : List Value} : rowAt w a n = some cs ↔ cs.length = n ∧ ∀ j v, cs[j]? = some v → w.cell? (a.add j) = some v := by
 have key : ∀ (is : List Nat) (cs : List Value), (is.mapM fun j => w.cell? (a.add j)) = some cs ↔ cs.length = is.length ∧ ∀ (m j : Nat), is[m]? = some j → ∀ v, cs[m]? = some v → w.cell? (a.add j) = some v := by
  intro is
  induction is with
  | nil => intro cs; simp
  | cons i is ih =>
   intro cs
   rw [List.mapM_cons]
   constructor
   ·intro h
    cases hc : w.cell? (a.add i) with
    | none => simp [hc] at h
    | some u =>
     cases hm : (is.mapM fun j => w.cell? (a.add j)) with
     | none => simp [hc, hm] at h
     | some us =>
      simp [hc, hm] at h
      subst h
      obtain ⟨h1, h2⟩ := (ih us).1 hm
      refine ⟨by simp [h1], fun m j hj v hv => ?_⟩
      cases m with
      | zero => simp at hj hv; subst hj; subst hv; exact hc
      | succ m => simp at hj hv; exact h2 m j hj v hv
   ·rintro ⟨h1, h2⟩
    cases cs with
    | nil => simp at h1
    | cons u us =>
     have hc := h2 0 i rfl u rfl
     have hm := (ih us).2 ⟨by simpa using h1, fun m j hj v hv => h2 (m + 1) j (by simpa using hj) v (by simpa using hv)⟩
     simp [hc, hm]
 unfold rowAt
 rw [key]
 simp only [List.length_range]
 constructor
 ·rintro ⟨h1, h2⟩
  refine ⟨h1, fun j v hv => h2 j j ?_ v hv⟩
  have := (List.getElem?_eq_some_iff.1 hv).1
  rw [List.getElem?_eq_getElem (by simp; omega)]; simp
 ·rintro ⟨h1, h2⟩
  refine ⟨h1, fun m j hj v hv => ?_⟩
  have : m = j := by obtain ⟨_, e⟩ := List.getElem?_eq_some_iff.1 hj; simpa using e
  subst this; exact h2 m v hv
theorem rowAt_block {W : World} {g : Nat} {t : TypeId} {cs : Array Value} {n : Nat} (h : W.heap[g]? = some (.cells cs t (0, 0))) (hn : cs.size = n) : rowAt W ⟨g, 0, none⟩ n = some cs.toList := by
 refine rowAt_some.2 ⟨by simpa using hn, fun j v hv => ?_⟩
 rw [add_plain, blk_cell h]; simpa using hv
theorem run_load_arr {P : Program} {t e : TypeId} {n : Nat} (hu : P.underlying t = some (.array n e)) (hi : (P.info? t).map (·.size) = some n) (w : World) (a : Addr) :
  (Instr.loadAt t (.pointer (some a))).run P w = match rowAt w a n with | some cs => .ok (.agg cs.toArray) w | none => (loadVar t a).run P w := by
 cases h : rowAt w a n with
 | none => simp only [Instr.loadAt, Instr.sureAddr, Sem.run_bind, Sem.run_pure, Result.andThen]
 | some cs =>
  obtain ⟨h1, h2⟩ := rowAt_some.1 h
  have hl := run_loadCells_list (P := P) w a cs h2
  cases hq : P.info? t with
  | none => simp [hq] at hi
  | some i =>
   have hs : i.size = n := by simpa [hq] using hi
   have hagg : (isAgg t).run P w = .ok true w := by
    unfold isAgg
    rw [Sem.run_bind, run_underlying hu w]
    simp
   rw [h1] at hl
   simp only [Instr.loadAt, Instr.sureAddr, Sem.run_bind, Sem.run_pure, Result.andThen]
   simp [loadVar, Sem.run_bind, hagg, sizeOf, typeInfo, hq, hs, hl, Result.andThen]
def elseLoad (P : Program) (t : TypeId) (v : Value) (w : World) : Result Next := (do let x ← Instr.loadAt t v; pure (Next.value x) : Sem Next).run P w
theorem run_execLoad {P : Program} {t e : TypeId} {n : Nat} (hu : P.underlying t = some (.array n e)) (hi : (P.info? t).map (·.size) = some n) (ρ : Operand → Value) (d : Option Tmp) (x : Operand) (ty : TypeId) (p : String) (af : Array Edge) (g : Option (Nat × Bool)) (w : World) :
  (execOp ρ { dst := d, op := .load t x, type := ty, pos := p, after := af, guard := g }).run P w =
   match ρ x with
   | .pointer (some a) => (match rowAt w a n with | some cs => .ok (.value (.agg cs.toArray)) w | none => elseLoad P t (.pointer (some a)) w)
   | v => elseLoad P t v w := by
 have h0 : (execOp ρ { dst := d, op := .load t x, type := ty, pos := p, after := af, guard := g }).run P w = elseLoad P t (ρ x) w := rfl
 rw [h0]
 split
 ·rename_i a ha
  rw [ha]
  cases h : rowAt w a n with
  | none => rfl
  | some cs =>
   have := run_load_arr hu hi w a
   rw [h] at this
   simp [elseLoad, this, Result.andThen]
 ·rfl
theorem run_store_arr {P : Program} (W : World) (g : Nat) (t : TypeId) (z : Array Value) (cs : List Value) (hg : W.heap[g]? = some (.cells z t (0, 0))) (hz : cs.length = z.size) (h1 : ∀ v ∈ cs, v.oneCell' = true) :
  (storeCells ⟨g, 0, none⟩ cs 0).run P W = .ok () (W.setRow g cs.toArray) := by
 have h := run_storeCells_from (P := P) g t cs 0 z W hg (by omega) h1
 simpa using h
/-- how long a block's row is, as simp can reckon it -/
def rowLen (w : World) (g : Nat) : Option Nat := match w.heap[g]? with | some (.cells cur _ (0, 0)) => some cur.size | _ => none
theorem rowLen_alloc (w : World) (z : Array Value) (t : TypeId) (g : Nat) : rowLen (w.alloc (.cells z t)) g = if g = w.heap.size then some z.size else rowLen w g := by
 by_cases h : g = w.heap.size
 ·subst h; rw [if_pos rfl]; unfold rowLen; rw [heap_alloc_new]; rfl
 ·rw [if_neg h]
  have : (w.alloc (.cells z t)).heap[g]? = w.heap[g]? := by
   show (w.heap.push _)[g]? = _
   rw [Array.getElem?_push, if_neg h]
  simp [rowLen, this]
theorem rowLen_drew (w : World) (g : Nat) : rowLen w.drew g = rowLen w g := rfl
theorem rowLen_setRow (w : World) (g g' : Nat) (cs : Array Value) (h : g ≠ g') : rowLen (w.setRow g' cs) g = rowLen w g := by
 simp only [rowLen, setRow_other _ _ _ _ h]
def oneCells (cs : List Value) : Bool := cs.all (·.oneCell')
def elseStore (P : Program) (g : Nat) (cs : List Value) (w : World) : Result Unit := (storeCells ⟨g, 0, none⟩ cs 0).run P w
theorem run_storeRow {P : Program} (W : World) (g : Nat) (cs : List Value) :
  (storeCells ⟨g, 0, none⟩ cs 0).run P W = if rowLen W g = some cs.length then (if oneCells cs = true then .ok () (W.setRow g cs.toArray) else elseStore P g cs W) else elseStore P g cs W := by
 split
 ·rename_i h
  split
  ·rename_i h1
   unfold rowLen at h
   split at h
   ·rename_i cur t hg
    exact run_store_arr W g t cur cs hg (by simpa using h.symm) (by simpa [oneCells] using h1)
   ·cases h
  ·rfl
 ·rfl
theorem rowAt_alloc {w : World} {a : Addr} (n : Nat) (o : Obj) (h : a.block < w.heap.size) : rowAt (w.alloc o) a n = rowAt w a n := by
 unfold rowAt
 congr 1
 funext j
 have hb : (a.add j).block = a.block := by unfold Addr.add; split <;> rfl
 have h2 := Below.heap_alloc w o (a.add j).block (by rw [hb]; exact h)
 exact World.cell?_of_block h2
theorem rowAt_drew (w : World) (a : Addr) (n : Nat) : rowAt w.drew a n = rowAt w a n := rfl
theorem rowAt_setRow {w : World} {a : Addr} (n g : Nat) (cs : Array Value) (h : a.block ≠ g) : rowAt (w.setRow g cs) a n = rowAt w a n := by
 unfold rowAt
 congr 1
 funext j
 have hb : (a.add j).block = a.block := by unfold Addr.add; split <;> rfl
 exact World.cell?_of_block (setRow_other _ _ _ _ (by rw [hb]; exact h))
theorem grown_alloc {w W : World} {r : Option Nat} (h : w.grownBy W r) (o : Obj) : w.grownBy (W.alloc o) r :=
 ⟨h.os, h.tape, h.output, by have := h.size; simp; omega, fun k hk hr => (Below.heap_alloc W o k (by have := h.size; omega)).trans (h.block k hk hr)⟩
theorem two_rows {W : World} {g1 g2 : Nat} {z1 z2 : Array Value} {t : TypeId} (h1 : W.heap[g1]? = some (.cells z1 t (0, 0))) (h2 : W.heap[g2]? = some (.cells z2 t (0, 0))) (hne : g1 ≠ g2) (c1 c2 : Array Value) :
  ((W.setRow g1 c1).setRow g2 c2).heap[g1]? = some (.cells c1 t (0, 0)) ∧ ((W.setRow g1 c1).setRow g2 c2).heap[g2]? = some (.cells c2 t (0, 0)) :=
 ⟨(setRow_other _ _ _ _ hne).trans (setRow_heap _ _ _ _ _ _ h1), setRow_heap _ _ _ _ _ _ ((setRow_other _ _ _ _ (fun e => hne e.symm)).trans h2)⟩
theorem nums_one (k : IntKind) (xs : List Int) : ∀ v ∈ nums k xs, v.oneCell' = true := by
 intro v hv; obtain ⟨x, _, rfl⟩ := List.mem_map.1 hv; rfl
theorem run_eq_nums {P : Program} {t e : TypeId} {n : Nat} {k : IntKind} {i : TypeInfo} (hu : P.underlying t = some (.array n e)) (hi : P.info? e = some i) (hs : i.size = 1) (he : P.underlying e = some (.int k)) (xs ys : List Int) (hx : xs.length = n) (hy : ys.length = n) (d : Nat) (w : World) :
  (Op.equalIn (d + 2) t (.agg (nums k xs).toArray) (.agg (nums k ys).toArray)).run P w = .ok (decide (xs = ys)) w := by
 rw [run_equalIn_array (w := w) (d + 1) _ _ hu hi]
 have hc : P.cellsOf e = 1 := by simp [Program.cellsOf, hi, hs]
 have key : ∀ (is : List Nat) (b : Bool), (∀ m ∈ is, m < n) → (b = true ↔ ∀ m ∈ is, xs[m]? = ys[m]?) → (Op.eqItems (d + 1) e (P.cellsOf e) (nums k xs).toArray (nums k ys).toArray is).run P w = .ok b w := by
  intro is
  induction is with
  | nil => intro b _ hb; have : b = true := hb.2 (by simp); subst this; simp [Op.eqItems]
  | cons m is ih =>
   intro b hm hb
   have h1 : m < xs.length := by have := hm m (by simp); omega
   have h2 : m < ys.length := by have := hm m (by simp); omega
   have p1 : (part e (nums k xs).toArray (m * 1)).run P w = .ok (.int k xs[m]) w := by
    simp [part, isAgg, run_underlying he, nums, List.getElem?_eq_getElem h1, Result.andThen]
   have p2 : (part e (nums k ys).toArray (m * 1)).run P w = .ok (.int k ys[m]) w := by
    simp [part, isAgg, run_underlying he, nums, List.getElem?_eq_getElem h2, Result.andThen]
   have p3 : (Op.equalIn (d + 1) e (.int k xs[m]) (.int k ys[m])).run P w = .ok (xs[m] == ys[m]) w := by
    simp [Op.equalIn, run_underlying he, Result.andThen]
   rw [hc] at ih ⊢
   simp only [Op.eqItems, Sem.run_bind, p1, p2, p3, Result.andThen_ok]
   by_cases e : xs[m] = ys[m]
   ·have := ih b (fun j hj => hm j (by simp [hj])) (by rw [hb]; simp [h1, h2, e])
    simp [e, this]
   ·have : b = false := by
     cases b with
     | false => rfl
     | true => exact absurd (by have := hb.1 rfl m (by simp); simpa [h1, h2] using this) e
    subst this
    simp [e]
 exact key _ _ (by simp) (by
  rw [decide_eq_true_iff]
  constructor
  ·rintro rfl; simp
  ·intro h
   apply List.ext_getElem?
   intro m
   rcases Nat.lt_or_ge m n with hm | hm
   ·exact h m (by simpa using hm)
   ·rw [List.getElem?_eq_none (by omega), List.getElem?_eq_none (by omega)])
open Go.RowKit Go.Proofs.YtcdpkdehogcjnaaGreatW.PrintWords Go.Proofs.YtcdpkdehogcjnaaGreatW.PrintLast Go.Proofs.YtcdpkdehogcjnaaGreatW.PrintMore
theorem must_yes (w : World) : Calls Tryz.prog 88 #[.bool true] w fun e w' => e = .returned (.tuple #[]) ∧ w = w' := by
 go_enter Tryz.func88, Tryz.ntmps88
 go_wp2
 go_returns
 exact ⟨rfl, rfl⟩
theorem must_no (w : World) : Calls Tryz.prog 88 #[.bool false] w fun e w' => e = .panicked [{ v := .iface 145 (.agg #[]), recovered := false }] ∧ w = w' := by
 go_enter Tryz.func88, Tryz.ntmps88
 go_wp2
 exact ⟨rfl, rfl, rfl⟩
theorem block_any (A : Option Addr) (n c i : Nat) (w : World) (hn : n ≤ c) (hc : n ≤ maxLen) (hi : (i + 1) * 64 ≤ n) :
  Calls Tryz.prog 62 #[.slice A n c, .int .i64 i] w fun e w' => e = .returned (.slice (A.map (·.add (i * 64))) 64 (c - i * 64)) ∧ w = w' := by
 unfold maxLen at hc
 go_enter Tryz.func62, Tryz.ntmps62
 go_wp2
 go_returns
 refine ⟨?_, rfl⟩
 have e : (i + 1) * 64 - i * 64 = 64 := by omega
 simp [e]
def numb (xs : List Int) : Int := xs.foldl (fun n x => 256 * n + x) 0
theorem numb_snoc (xs : List Int) (x : Int) : numb (xs ++ [x]) = 256 * numb xs + x := by simp [numb, List.foldl_append]
def IsBytes (xs : List Int) : Prop := ∀ x ∈ xs, 0 ≤ x ∧ x < 256
theorem numb_bound : ∀ (n : Nat) (xs : List Int), xs.length = n → IsBytes xs → 0 ≤ numb xs ∧ numb xs < 256 ^ n
 | 0, xs, hn, _ => by have : xs = [] := List.eq_nil_of_length_eq_zero hn; subst this; simp [numb]
 | n + 1, xs, hn, hb => by
  have hne : xs ≠ [] := by intro e; subst e; simp at hn
  have e := List.dropLast_concat_getLast hne
  have hl := hb (xs.getLast hne) (List.getLast_mem hne)
  have h := numb_bound n xs.dropLast (by simp [hn]) (fun y hy => hb y ((List.dropLast_sublist xs).subset hy))
  rw [← e, numb_snoc, Int.pow_succ]
  omega
theorem pow256 (k n : Nat) (h : k ≤ n) : (256 : Int) ^ k ≤ 256 ^ n := by
 have := Nat.pow_le_pow_right (n := 256) (by omega) h
 have e : ∀ j : Nat, (256 : Int) ^ j = ((256 ^ j : Nat) : Int) := fun j => by rw [Int.natCast_pow]; rfl
 rw [e, e]; omega
theorem cellN {w : World} {k : IntKind} {A : Option Addr} {n : Nat} {xs : List Int} (h : Kd.C (Kd.int k) w A n xs) (i : Nat) (hi : i < n) (hn : n ≤ xs.length) : ∃ ad x, A = some ad ∧ w.cell? (ad.add i) = some (.int k x) ∧ Aside0 (xs[i]? = some x) := by
 obtain ⟨ad, e, hc⟩ := Kd.at_int h (i : Int) (by omega) (by omega)
 refine ⟨ad, xs[i]'(by omega), e, ?_, ⟨List.getElem?_eq_getElem _⟩⟩
 have : rd xs (i : Int) = xs[i]'(by omega) := by simp [rd, List.getD_eq_getElem?_getD, List.getElem?_eq_getElem (show i < xs.length by omega)]
 rw [← this]; simpa using hc
theorem take_get {xs : List Int} {k : Nat} {x : Int} (h : xs[k]? = some x) : xs.take (k + 1) = xs.take k ++ [x] := by
 rw [List.take_add_one, h]; rfl
theorem wrap_u16_in (n : Int) (h0 : 0 ≤ n) (h1 : n < 65536) : IntKind.u16.wrap n = n := by simp [IntKind.wrap, IntKind.bits, IntKind.signed]; omega
theorem step_u16 (n x : Int) (h0 : 0 ≤ n) (h1 : n < 256) (hx0 : 0 ≤ x) (hx1 : x < 256) : bits BinOp.or .u16 (IntKind.u16.wrap (n * 256)) (IntKind.u16.wrap x) = 256 * n + x := by
 rw [wrap_u16_in _ (by omega) (by omega), wrap_u16_in _ (by omega) (by omega), bits_join .u16 16 (by decide) (fun n a b => wrap_u16_in n a (by simpa using b)) 8 _ _ (by omega) (by omega) (by omega) (by omega) (by omega) (by omega)]
 omega
theorem number_u16 (A : Option Addr) (c : Nat) (xs : List Int) (w : World) (hr : Kd.C (Kd.int .u8) w A xs.length xs) (hc : xs.length ≤ c) (hx : xs.length ≤ 2) (hb : IsBytes xs) :
  Calls Tryz.prog 89 #[.slice A xs.length c] w fun e w' => e = .returned (.int .u16 (numb xs)) ∧ w = w' := by
 have HR := Aside0.mk hr
 have HB := Aside0.mk hb
 clear hr hb
 go_enter Tryz.func89, Tryz.ntmps89
 go_wp2
 go_loop [3, 8] (fun v i => ∃ k : Nat, k ≤ xs.length ∧ i = .int .i64 k ∧ v = .int .u16 (numb (xs.take k))) (fun _ i => xs.length - (intOf i).toNat)
 case atStart => exact ⟨0, by omega, by simp, by simp [numb]⟩
 case round =>
  obtain ⟨k, hk, rfl, rfl⟩ := hrel
  by_cases hlt : k < xs.length
  ·obtain ⟨ad, x, rfl, hcell, hX⟩ := cellN HR.out k hlt (by omega)
   go_wp2
   go_round
   case rel =>
    refine ⟨k + 1, by omega, by go_num, ?_⟩
    have hx := HB.out x (List.mem_of_getElem? hX.out)
    have hn := numb_bound k (xs.take k) (by simp; omega) (fun y hy => HB.out y (List.mem_of_mem_take hy))
    have hp := pow256 k 1 (by omega)
    rw [take_get hX.out, numb_snoc, step_u16 _ _ hn.1 (by omega) hx.1 hx.2]
   case measure => simp [intOf]; omega
  ·go_wp2
   go_ret
   exact ⟨by rw [List.take_of_length_le (by omega)]; rfl, rfl⟩
theorem wrap_u64_in (n : Int) (h0 : 0 ≤ n) (h1 : n < 18446744073709551616) : IntKind.u64.wrap n = n := by simp [IntKind.wrap, IntKind.bits, IntKind.signed]; omega
theorem step_u64 (n x : Int) (h0 : 0 ≤ n) (h1 : n < 72057594037927936) (hx0 : 0 ≤ x) (hx1 : x < 256) : bits BinOp.or .u64 (IntKind.u64.wrap (n * 256)) (IntKind.u64.wrap x) = 256 * n + x := by
 rw [wrap_u64_in _ (by omega) (by omega), wrap_u64_in _ (by omega) (by omega), bits_join .u64 64 (by decide) (fun n a b => wrap_u64_in n a (by simpa using b)) 8 _ _ (by omega) (by omega) (by omega) (by omega) (by omega) (by omega)]
 omega
theorem number_u64 (A : Option Addr) (c : Nat) (xs : List Int) (w : World) (hr : Kd.C (Kd.int .u8) w A xs.length xs) (hc : xs.length ≤ c) (hx : xs.length ≤ 8) (hb : IsBytes xs) :
  Calls Tryz.prog 90 #[.slice A xs.length c] w fun e w' => e = .returned (.int .u64 (numb xs)) ∧ w = w' := by
 have HR := Aside0.mk hr
 have HB := Aside0.mk hb
 clear hr hb
 go_enter Tryz.func90, Tryz.ntmps90
 go_wp2
 go_loop [3, 8] (fun v i => ∃ k : Nat, k ≤ xs.length ∧ i = .int .i64 k ∧ v = .int .u64 (numb (xs.take k))) (fun _ i => xs.length - (intOf i).toNat)
 case atStart => exact ⟨0, by omega, by simp, by simp [numb]⟩
 case round =>
  obtain ⟨k, hk, rfl, rfl⟩ := hrel
  by_cases hlt : k < xs.length
  ·obtain ⟨ad, x, rfl, hcell, hX⟩ := cellN HR.out k hlt (by omega)
   go_wp2
   go_round
   case rel =>
    refine ⟨k + 1, by omega, by go_num, ?_⟩
    have hx := HB.out x (List.mem_of_getElem? hX.out)
    have hn := numb_bound k (xs.take k) (by simp; omega) (fun y hy => HB.out y (List.mem_of_mem_take hy))
    have hp := pow256 k 7 (by omega)
    rw [take_get hX.out, numb_snoc, step_u64 _ _ hn.1 (by omega) hx.1 hx.2]
   case measure => simp [intOf]; omega
  ·go_wp2
   go_ret
   exact ⟨by rw [List.take_of_length_le (by omega)]; rfl, rfl⟩
theorem zero1_any (x : Int) (w : World) : Calls Tryz.prog 102 #[.int .u8 x] w fun e w' => e = .returned (.bool (x != 0)) ∧ w = w' := by
 go_enter Tryz.func102, Tryz.ntmps102
 go_wp2
 go_ret
 exact ⟨rfl, rfl⟩
def isZ (xs : List Int) : Bool := xs.all (· == 0)
theorem isZ_step {xs : List Int} {k : Nat} {x : Int} (h : xs[k]? = some x) (hz : isZ (xs.take k) = true) (hx : x = 0) : isZ (xs.take (k + 1)) = true := by
 subst hx; rw [take_get h]; unfold isZ at *; rw [List.all_append, hz]; rfl
theorem isZ_no {xs : List Int} {k : Nat} {x : Int} (h : xs[k]? = some x) (hx : ¬ x = 0) : isZ xs = false := by
 have := List.mem_of_getElem? h
 simp only [isZ, List.all_eq_false]; exact ⟨x, this, by simpa using hx⟩
theorem index_z (A : Option Addr) (c : Nat) (xs : List Int) (w : World) (hr : Kd.C (Kd.int .u8) w A xs.length xs) (hc : xs.length ≤ c) (hm : xs.length ≤ maxLen) :
  Calls Tryz.prog 105 #[.slice A xs.length c, .func (.func 102) #[] #[]] w fun e w' => ∃ i : Int, e = .returned (.int .i64 i) ∧ (decide (0 ≤ i) = !isZ xs) ∧ w = w' := by
 unfold maxLen at hm
 have HR := Aside0.mk hr
 clear hr
 go_enter Tryz.func105, Tryz.ntmps105
 go_wp2
 go_loop [8] (fun i => ∃ k : Nat, k ≤ xs.length ∧ i = .int .i64 k ∧ Aside0 (isZ (xs.take k) = true)) (fun i => xs.length - (intOf i).toNat)
 case atStart => exact ⟨0, by omega, by simp, ⟨by simp [isZ]⟩⟩
 case round =>
  obtain ⟨k, hk, rfl, hz⟩ := hrel
  by_cases hlt : k < xs.length
  ·obtain ⟨ad, x, rfl, hcell, hX⟩ := cellN HR.out k hlt (by omega)
   by_cases hx : x = 0
   ·subst hx
    go_wp2_with (go_at_call 102; refine (zero1_any _ _).mono ?_; rintro e w' ⟨rfl, rfl⟩)
    go_round
    case rel => exact ⟨k + 1, by omega, by go_num, ⟨isZ_step hX.out hz.out rfl⟩⟩
    case measure => simp [intOf]; omega
   ·have hx' : (x != 0) = true := by simpa using hx
    go_wp2_with (go_at_call 102; refine (zero1_any _ _).mono ?_; rintro e w' ⟨rfl, rfl⟩)
    go_ret
    exact ⟨k, rfl, by rw [isZ_no hX.out hx]; simp, rfl⟩
  ·go_wp2
   go_ret
   have h := hz.out
   rw [List.take_of_length_le (by omega)] at h
   exact ⟨-1, rfl, by rw [h]; rfl, rfl⟩
theorem contains_z (A : Option Addr) (c : Nat) (xs : List Int) (w : World) (hr : Kd.C (Kd.int .u8) w A xs.length xs) (hc : xs.length ≤ c) (hm : xs.length ≤ maxLen) :
  Calls Tryz.prog 101 #[.slice A xs.length c, .func (.func 102) #[] #[]] w fun e w' => e = .returned (.bool (!isZ xs)) ∧ w = w' := by
 have HR := Aside0.mk hr
 clear hr
 go_enter Tryz.func101, Tryz.ntmps101
 go_wp2_with (go_at_call 105; refine (index_z _ _ _ _ HR.out hc hm).mono ?_; rintro e w' ⟨i, rfl, hi, rfl⟩)
 go_ret
 exact ⟨rfl, rfl⟩
theorem zero_any (A : Option Addr) (c : Nat) (xs : List Int) (w : World) (hr : Kd.C (Kd.int .u8) w A xs.length xs) (hc : xs.length ≤ c) (hm : xs.length ≤ maxLen) :
  Calls Tryz.prog 91 #[.slice A xs.length c] w fun e w' => e = .returned (.bool (isZ xs)) ∧ w = w' := by
 have HR := Aside0.mk hr
 clear hr
 go_enter Tryz.func91, Tryz.ntmps91
 go_wp2_with (go_at_call 101; refine (contains_z _ _ _ _ HR.out hc hm).mono ?_; rintro e w' ⟨rfl, rfl⟩)
 go_ret
 exact ⟨rfl, rfl⟩
/-- fresh bytes -/
def FreshB (w w' : World) (v : Value) (xs : List Int) : Prop := Kd.R (Kd.int .u8) 5 w' w.heap.size (fun _ => True) v xs ∧ Below w.heap.size w w'
theorem C_none {α : Type} {d : Kd α} {w : World} {n : Nat} {xs : List α} (h : Kd.C d w none n xs) : xs = [] := by
 obtain ⟨h1, _, h2⟩ := h
 rcases Nat.eq_zero_or_pos xs.length with h | h
 ·exact List.eq_nil_of_length_eq_zero h
 ·obtain ⟨ad, e, _⟩ := h2 (by omega); cases e
theorem clone_any (A : Option Addr) (c : Nat) (xs : List Int) (w : World) (hr : Kd.C (Kd.int .u8) w A xs.length xs) (hc : xs.length ≤ c) (hl : xs.length ≤ 70368744177664) :
  Calls Tryz.prog 61 #[.slice A xs.length c] w fun e w' => ∃ v, e = .returned v ∧ FreshB w w' v xs := by
 have q22 : ∀ (w : World) (a : Option Addr) (n c n' c' : Nat), (binOp .eql 22 (.slice a n c) (.slice none n' c')).run Tryz.prog w = .ok (.bool a.isNone) w := fun w a n c n' c' => Lib.run_eql_slice_nil w _ _ a n c n' c' Tryz.underlying22
 have HR := Aside0.mk hr
 clear hr
 cases A with
 | none =>
  have hx : xs = [] := C_none HR.out
  subst hx
  go_enter Tryz.func61, Tryz.ntmps61
  go_wp2
  go_ret
  exact ⟨_, rfl, Kd.R_nil _ _ _ _ _, Below.refl _ _⟩
 | some ad =>
  go_enter Tryz.func61, Tryz.ntmps61
  go_wp2_with (at_builtin; refine Kd.R_append_row (Value.int .u8) (0 : Int) (h1 := fun _ => rfl) (w0 := w) w.heap.size rfl (.tmp 5) (.tmp 6) 22 5 (.int .u8 0) 1 rfl Tryz.underlying22 info5 rfl (by decide) (.slice (some ⟨w.heap.size, 0, none⟩) 0 0) [] xs (some ad) xs.length c (fun _ => True) rfl rfl (fun _ _ => trivial) ?aO ?aR ?aB ?aZ ?aL ?_)
  case aO => exact Kd.R_of_own (own_lit_of _ _ _ [] (Nat.le_refl _) (by simp)) (fun _ _ => trivial)
  case aR => exact Kd.C_below HR.out (below_alloc (Below.refl _ _) _)
  case aB => exact below_alloc (Below.refl _ _) _
  case aZ => simp
  case aL => simp; omega
  intro v1 w1 hR hB _ _
  have H1 := Aside0.mk hR; clear hR
  go_wp2
  go_ret
  exact ⟨_, rfl, H1.out, hB⟩
theorem take_yes (g : Nat) (A : Option Addr) (n c k : Nat) (t : TypeId) (last : Value) (w : World) (hw : w.heap[g]? = some (.cells #[.slice A n c, last] t (0, 0))) (hn : n ≤ c) (hc : n ≤ maxLen) (hk : k ≤ n) :
  Calls Tryz.prog 103 #[.pointer (some ⟨g, 0, none⟩), .int .i64 k] w fun e w' => e = .returned (.slice A k c) ∧ w' = w.setCell ⟨g, 0, none⟩ (.slice (if c = k then A else A.map (·.add k)) (n - k) (c - k)) := by
 unfold maxLen at hc
 have hc0 := blk_cell hw 0
 have hf0 := blk_frozen hw 0
 simp at hc0
 have hd : decide ((k : Int) ≤ n) = true := decide_eq_true (by omega)
 go_enter Tryz.func103, Tryz.ntmps103
 go_wp2_with (go_at_call 88; refine (must_yes _).mono ?_; rintro e w' ⟨rfl, rfl⟩)
 all_goals go_ret
 all_goals exact ⟨rfl, rfl⟩
theorem take_no (g : Nat) (A : Option Addr) (n c k : Nat) (t : TypeId) (last : Value) (w : World) (hw : w.heap[g]? = some (.cells #[.slice A n c, last] t (0, 0))) (hk : n < k) :
  Calls Tryz.prog 103 #[.pointer (some ⟨g, 0, none⟩), .int .i64 k] w fun e w' => e = .panicked [{ v := .iface 145 (.agg #[]), recovered := false }] ∧ w = w' := by
 have hc0 := blk_cell hw 0
 have hf0 := blk_frozen hw 0
 simp at hc0
 have hd : decide (k ≤ n) = false := decide_eq_false (by omega)
 go_enter Tryz.func103, Tryz.ntmps103
 go_wp2_with (go_at_call 88; refine (must_no _).mono ?_; rintro e w' ⟨rfl, rfl⟩)
 exact ⟨rfl, rfl, rfl⟩
theorem grow_b (m : Nat) (w : World) (hm : m ≤ 70368744177664) :
  Calls Tryz.prog 85 #[.slice none 0 0, .int .i64 m] w fun e w' => ∃ v, e = .returned v ∧ Kd.R (Kd.int .u8) 5 w' w.heap.size (fun _ => True) v [] ∧ Below w.heap.size w w' := by
 go_enter Tryz.func85, Tryz.ntmps85
 by_cases h0 : m = 0
 ·subst h0
  go_wp2_with fail
  go_returns
  exact ⟨_, rfl, Kd.R_nil _ _ _ _ _, Below.refl _ _⟩
 ·have hp : decide (0 < m) = true := decide_eq_true (by omega)
  go_wp2_with (at_builtin; refine Kd.R_append_zeros (Kd.int .u8) (w0 := w) w.heap.size rfl (.tmp 20) (.tmp 21) 22 3 5 (.int .u8 0) 1 rfl Tryz.underlying22 Tryz.underlying3 info5 rfl (by decide) (by decide) (.slice none 0 0) [] 0 (m : Int) (fun _ => True) rfl rfl ?aM (fun _ _ => trivial) ?aO ?aP ?aB ?aS ?aL ?_)
  case aM => exact rfl
  case aO => exact Kd.R_nil _ _ _ _ _
  case aP => omega
  case aB => exact Below.refl _ _
  case aS => exact Nat.le_refl _
  case aL => simp; omega
  intro v1 w1 hR hB _ _
  obtain ⟨A1, c1, rfl⟩ := Kd.R_slice hR
  have H1 := Aside0.mk hR
  have HB1 := Aside0.mk hB
  clear hR hB
  go_wp2_with fail
  go_returns
  exact ⟨_, rfl, by have := Kd.R_take H1.out (m := 0) (by simp); simpa using this, HB1.out⟩
theorem rows_at {w : World} {A : Option Addr} {l : List (List Int)} (h : Kd.C (Kd.slice 5 (Kd.int .u8)) w A l.length l) (i : Nat) (hi : i < l.length) :
  ∃ ad A0 c0 x, A = some ad ∧ l[i]? = some x ∧ w.cell? (ad.add i) = some (.slice A0 x.length c0) ∧ x.length ≤ c0 ∧ Kd.C (Kd.int .u8) w A0 x.length x := by
 obtain ⟨ad, c, e, _, hK, hc0⟩ := Kd.C_get h ([] : List Int) (i : Int) (by omega) (by omega)
 have hc : ∀ j u, c[j]? = some u → w.cell? (ad.add ((i : Int).toNat * 1 + j)) = some u := hc0
 obtain ⟨A0, c0, rfl, l0, g0⟩ := hK
 have hx : l[i]? = some (l.getD (i : Int).toNat []) := by
  rw [List.getElem?_eq_getElem hi]
  simp [List.getD_eq_getElem?_getD, List.getElem?_eq_getElem hi]
 exact ⟨ad, A0, c0, _, e, hx, by have hq := hc 0 _ rfl; simpa using hq, l0, g0⟩
theorem flat_step {l : List (List Int)} {i : Nat} {x : List Int} (h : l[i]? = some x) : (l.take (i + 1)).flatten = (l.take i).flatten ++ x := by
 rw [List.take_add_one, h]
 simp
theorem flat_le {l : List (List Int)} (i : Nat) : (l.take i).flatten.length ≤ l.flatten.length := by
 have h : l.flatten = (l.take i).flatten ++ (l.drop i).flatten := by rw [← List.flatten_append, List.take_append_drop]
 rw [h, List.length_append]; omega
def slices_Concat_byte_byte.f (l0 : List (List Int)) : Option (List Int) := if l0.flatten.length ≤ 70368744177664 then some l0.flatten else none
theorem slices_Concat_byte_byte.calls (A0 : Option Addr) (c0 : Nat) (l0 : List (List Int)) (r : List Int) (w : World) (hr0 : Kd.C (Kd.slice 5 (Kd.int .u8)) w A0 l0.length l0) (hc0 : l0.length ≤ c0) (h : slices_Concat_byte_byte.f l0 = some r) :
  Calls Tryz.prog 63 #[.slice A0 l0.length c0] w fun e w' => ∃ v0_ : Value, e = .returned v0_ ∧ Kd.R (Kd.int .u8) 5 w' w.heap.size (fun _ => True) v0_ r ∧ Below w.heap.size w w' := by
 unfold slices_Concat_byte_byte.f at h
 by_cases hl : l0.flatten.length ≤ 70368744177664
 rotate_left
 ·rw [if_neg hl] at h; exact absurd h (by simp)
 rw [if_pos hl] at h
 obtain rfl := Option.some.inj h
 clear h
 have hmx := Kd.C_max hr0
 have HR := Aside0.mk hr0
 clear hr0
 go_enter Tryz.func63, Tryz.ntmps63
 go_wp2_with fail
 go_loop [3, 11] (fun s k => ∃ i n : Nat, k = .int .i64 i ∧ s = .int .i64 n ∧ i ≤ l0.length ∧ Aside0 (n = (l0.take i).flatten.length)) (fun _ k => l0.length - (intOf k).toNat)
 case atStart => exact ⟨0, 0, rfl, rfl, by omega, ⟨by simp⟩⟩
 case round =>
  obtain ⟨i, n, rfl, rfl, hi, HN⟩ := hrel
  by_cases hlt : i < l0.length
  ·have hd : decide (i < l0.length) = true := decide_eq_true hlt
   obtain ⟨ad, A1, c1, x, rfl, hx, h0, hc1, hC⟩ := rows_at HR.out i hlt
   have hfl := flat_le (l := l0) (i + 1)
   rw [flat_step hx, List.length_append, ← HN.out] at hfl
   have hneg : decide ((n : Int) + (x.length : Int) < 0) = false := decide_eq_false (by omega)
   have hsum : n + x.length ≤ 70368744177664 := by omega
   have HX := Aside0.mk hx
   clear hx hC hfl
   go_wp2_with fail
   go_round
   case measure => simp [intOf]; omega
   case rel => exact ⟨i + 1, n + x.length, by go_num, by go_num, by omega, ⟨by rw [flat_step HX.out, List.length_append, ← HN.out]⟩⟩
  ·have hd : decide (i < l0.length) = false := decide_eq_false hlt
   have hn : n ≤ 70368744177664 := by rw [HN.out, List.take_of_length_le (by omega)]; exact hl
   clear HN hlt hi
   go_wp2_with fail
   refine (grow_b n w hn).mono ?_
   rintro e w1 ⟨v1, rfl, hR1, hB1⟩
   have HR1 := Aside0.mk hR1
   have HB1 := Aside0.mk hB1
   clear hR1 hB1
   go_wp2_with fail
   go_loopw [6, 27] (fun v k wr => ∃ i : Nat, k = .int .i64 i ∧ i ≤ l0.length ∧ Aside0 (Below w.heap.size w wr) ∧ Aside0 (Kd.R (Kd.int .u8) 5 wr w.heap.size (fun _ => True) v (l0.take i).flatten)) (fun _ k _ => l0.length - (intOf k).toNat)
   case atStart => exact ⟨0, rfl, by omega, HB1, ⟨by simpa using HR1.out⟩⟩
   case round =>
    obtain ⟨j, rfl, hj, HB2, HR2⟩ := hrel
    by_cases hlt : j < l0.length
    ·have hd2 : decide (j < l0.length) = true := decide_eq_true hlt
     obtain ⟨ad, A1, c1, x, rfl, hx, h0, hc1, hC⟩ := rows_at (Kd.C_below HR.out HB2.out) j hlt
     have hfl := flat_le (l := l0) (j + 1)
     rw [flat_step hx, List.length_append] at hfl
     have HFL : Aside0 ((l0.take j).flatten.length + x.length ≤ 70368744177664) := ⟨by omega⟩
     have HX := Aside0.mk hx
     have HC := Aside0.mk hC
     clear hx hC hfl
     go_wp2_with (at_builtin; refine Kd.R_append_row (Value.int .u8) (0 : Int) (h1 := fun _ => rfl) (w0 := w) w.heap.size rfl (.tmp 31) (.tmp 32) 22 5 (.int .u8 0) 1 rfl Tryz.underlying22 info5 rfl (by decide) _ (l0.take j).flatten x A1 x.length c1 (fun _ => True) rfl rfl (fun _ _ => trivial) HR2.out HC.out HB2.out HB2.out.size ?aL ?_)
     case aL => have := HFL.out; omega
     intro v2 w2 hR hB _ _
     have HR3 := Aside0.mk hR
     have HB3 := Aside0.mk hB
     clear hR hB
     go_wp2_with fail
     go_roundw
     case measure => simp [intOf]; omega
     case rel => exact ⟨j + 1, by go_num, by omega, HB3, ⟨by rw [flat_step HX.out]; exact HR3.out⟩⟩
    ·have hd2 : decide (j < l0.length) = false := decide_eq_false hlt
     go_wp2_with fail
     go_returns
     exact ⟨_, rfl, by have := HR2.out; rwa [List.take_of_length_le (by omega)] at this, HB2.out⟩
theorem number_u16n (A : Option Addr) (n c : Nat) (xs : List Int) (w : World) (hn : xs.length = n) (hr : Kd.C (Kd.int .u8) w A n xs) (hc : n ≤ c) (hx : n ≤ 2) (hb : IsBytes xs) :
  Calls Tryz.prog 89 #[.slice A n c] w fun e w' => e = .returned (.int .u16 (numb xs)) ∧ w = w' := by
 subst hn; exact number_u16 A c xs w hr hc hx hb
theorem number_u64n (A : Option Addr) (n c : Nat) (xs : List Int) (w : World) (hn : xs.length = n) (hr : Kd.C (Kd.int .u8) w A n xs) (hc : n ≤ c) (hx : n ≤ 8) (hb : IsBytes xs) :
  Calls Tryz.prog 90 #[.slice A n c] w fun e w' => e = .returned (.int .u64 (numb xs)) ∧ w = w' := by
 subst hn; exact number_u64 A c xs w hr hc hx hb
theorem zero_n (A : Option Addr) (n c : Nat) (xs : List Int) (w : World) (hn : xs.length = n) (hr : Kd.C (Kd.int .u8) w A n xs) (hc : n ≤ c) (hm : n ≤ maxLen) :
  Calls Tryz.prog 91 #[.slice A n c] w fun e w' => e = .returned (.bool (isZ xs)) ∧ w = w' := by
 subst hn; exact zero_any A c xs w hr hc hm
theorem clone_n (A : Option Addr) (n c : Nat) (xs : List Int) (w : World) (hn : xs.length = n) (hr : Kd.C (Kd.int .u8) w A n xs) (hc : n ≤ c) (hl : n ≤ 70368744177664) :
  Calls Tryz.prog 61 #[.slice A n c] w fun e w' => ∃ v, e = .returned v ∧ FreshB w w' v xs := by
 subst hn; exact clone_any A c xs w hr hc hl
theorem C_len {α : Type} {d : Kd α} {w : World} {A : Option Addr} {n : Nat} {xs : List α} (h : d.C w A n xs) : xs.length = n := h.1
theorem C_takeN {α : Type} {d : Kd α} {w : World} {A : Option Addr} {n : Nat} {xs : List α} (h : d.C w A n xs) (m : Nat) (hm : m ≤ n) : d.C w A m (xs.take m) := by
 have e := C_len h; subst e
 have := Kd.C_take h hm
 rwa [List.length_take, Nat.min_eq_left hm] at this
theorem C_dropN {w : World} {A : Option Addr} {n c : Nat} {xs : List Int} {k : IntKind} (h : (Kd.int k).C w A n xs) (m : Nat) (hm : m ≤ n) (hc : n ≤ c) : (Kd.int k).C w (if c = m then A else A.map (·.add m)) (n - m) (xs.drop m) := by
 have e := C_len h; subst e
 have := Kd.C_drop (c := c) h hm hc
 simp only [List.length_drop] at this
 have e : (Kd.int k).sz = 1 := rfl
 simpa [e] using this
theorem bytes_take {xs : List Int} (h : IsBytes xs) (m : Nat) : IsBytes (xs.take m) := fun x hx => h x (List.mem_of_mem_take hx)
theorem bytes_drop {xs : List Int} (h : IsBytes xs) (m : Nat) : IsBytes (xs.drop m) := fun x hx => h x (List.mem_of_mem_drop hx)
/-- the reader in block g: what is left to read lies in block bd, which is as o says -/
structure Rdr (bd : Nat) (o : Option Obj) (w : World) (g : Nat) (A : Option Addr) (n c : Nat) (last : Int) (xs : List Int) : Prop where
 hg : w.heap[g]? = some (.cells #[.slice A n c, .int .i64 last] 135 (0, 0))
 hr : ∀ w' : World, w'.heap[bd]? = o → Kd.C (Kd.int .u8) w' A n xs
 hn : n ≤ c
 hc : n ≤ maxLen
 hb : IsBytes xs
 ho : w.heap[bd]? = o
 hne : bd ≠ g
 hbd : bd < w.heap.size
theorem Rdr.len {bd : Nat} {o : Option Obj} {w : World} {g : Nat} {A : Option Addr} {n c : Nat} {last : Int} {xs : List Int} (H : Rdr bd o w g A n c last xs) : xs.length = n := C_len (H.hr w H.ho)
theorem Rdr.cells {bd : Nat} {o : Option Obj} {w : World} {g : Nat} {A : Option Addr} {n c : Nat} {last : Int} {xs : List Int} (H : Rdr bd o w g A n c last xs) :
  w.cell? ⟨g, 0, none⟩ = some (.slice A n c) ∧ w.cell? ⟨g, 1, none⟩ = some (.int .i64 last) ∧ w.frozen? ⟨g, 0, none⟩ = false ∧ w.frozen? ⟨g, 1, none⟩ = false ∧ g < w.heap.size := by
 refine ⟨?_, ?_, blk_frozen H.hg 0, blk_frozen H.hg 1, blk_lt H.hg⟩
 ·have := blk_cell H.hg 0; simpa using this
 ·have := blk_cell H.hg 1; simpa using this
/-- other blocks may be new or written, not the reader's, nor the data's -/
theorem Rdr.move {bd : Nat} {o : Option Obj} {w w1 : World} {g : Nat} {A : Option Addr} {n c : Nat} {last : Int} {xs : List Int} (H : Rdr bd o w g A n c last xs) (hb : w1.heap[bd]? = w.heap[bd]?) (hg : w1.heap[g]? = w.heap[g]?) (hs : w.heap.size ≤ w1.heap.size) : Rdr bd o w1 g A n c last xs :=
 ⟨hg.trans H.hg, H.hr, H.hn, H.hc, H.hb, hb.trans H.ho, H.hne, Nat.lt_of_lt_of_le H.hbd hs⟩
theorem Rdr.alloc {bd : Nat} {o : Option Obj} {w : World} {g : Nat} {A : Option Addr} {n c : Nat} {last : Int} {xs : List Int} (H : Rdr bd o w g A n c last xs) (ob : Obj) : Rdr bd o (w.alloc ob) g A n c last xs :=
 H.move (Below.heap_alloc _ _ _ H.hbd) (Below.heap_alloc _ _ _ (blk_lt H.hg)) (by simp)
theorem Rdr.below {bd : Nat} {o : Option Obj} {w w1 : World} {g : Nat} {A : Option Addr} {n c : Nat} {last : Int} {xs : List Int} (H : Rdr bd o w g A n c last xs) (hb : Below w.heap.size w w1) : Rdr bd o w1 g A n c last xs :=
 H.move (hb.block bd H.hbd) (hb.block g (blk_lt H.hg)) hb.size
theorem Rdr.far {bd : Nat} {o : Option Obj} {w : World} {g : Nat} {A : Option Addr} {n c : Nat} {last : Int} {xs : List Int} (H : Rdr bd o w g A n c last xs) (p : Addr) (u : Value) (hp : bd ≠ p.block) (hg : g ≠ p.block) : Rdr bd o (w.setCell p u) g A n c last xs :=
 H.move (Below.heap_setCell _ _ _ _ hp) (Below.heap_setCell _ _ _ _ hg) (by simp [World.setCell])
theorem Rdr.drew {bd : Nat} {o : Option Obj} {w : World} {g : Nat} {A : Option Addr} {n c : Nat} {last : Int} {xs : List Int} (H : Rdr bd o w g A n c last xs) : Rdr bd o w.drew g A n c last xs :=
 H.move rfl rfl (Nat.le_refl _)
theorem Rdr.last_ {bd : Nat} {o : Option Obj} {w : World} {g : Nat} {A : Option Addr} {n c : Nat} {last : Int} {xs : List Int} (H : Rdr bd o w g A n c last xs) (l : Int) : Rdr bd o (w.setCell ⟨g, 1, none⟩ (.int .i64 l)) g A n c l xs :=
 ⟨by have := blk_set H.hg 1 (.int .i64 l); simpa using this, H.hr, H.hn, H.hc, H.hb, (Below.heap_setCell _ _ _ _ H.hne).trans H.ho, H.hne, by have := H.hbd; simpa [World.setCell] using this⟩
/-- grown but for the reader's block -/
theorem grown_set {w : World} {g : Nat} (i : Nat) (u : Value) : w.grownBy (w.setCell ⟨g, i, none⟩ u) (some g) :=
 ⟨rfl, rfl, rfl, by simp [World.setCell], fun k _ hk => Below.heap_setCell _ _ _ _ (by simpa using hk)⟩
theorem grown_trans {a b c : World} {g : Nat} (h : a.grownBy b (some g)) (k : b.grownBy c (some g)) : a.grownBy c (some g) :=
 ⟨k.os.trans h.os, k.tape.trans h.tape, k.output.trans h.output, Nat.le_trans h.size k.size, fun i hi hr => (k.block i (Nat.lt_of_lt_of_le hi h.size) hr).trans (h.block i hi hr)⟩
theorem takeR_yes (bd : Nat) (o : Option Obj) (g : Nat) (A : Option Addr) (n c k : Nat) (last : Int) (xs : List Int) (w : World) (H : Rdr bd o w g A n c last xs) (hk : k ≤ n) :
  Calls Tryz.prog 103 #[.pointer (some ⟨g, 0, none⟩), .int .i64 k] w fun e w' => ∃ A' c', e = .returned (.slice A k c) ∧ Rdr bd o w' g A' (n - k) c' last (xs.drop k) ∧ w.grownBy w' (some g) := by
 refine (take_yes g A n c k _ _ w H.hg H.hn H.hc hk).mono ?_
 rintro e w' ⟨rfl, rfl⟩
 refine ⟨_, _, rfl, ⟨by have := blk_set H.hg 0 (.slice (if c = k then A else A.map (·.add k)) (n - k) (c - k)); simpa using this, fun w' h => C_dropN (H.hr w' h) k hk H.hn, ?_, ?_, bytes_drop H.hb k, (Below.heap_setCell _ _ _ _ H.hne).trans H.ho, H.hne, by have := H.hbd; simpa [World.setCell] using this⟩, grown_set 0 _⟩
 ·have := H.hn; omega
 ·have := H.hc; omega
theorem takeR_no (bd : Nat) (o : Option Obj) (g : Nat) (A : Option Addr) (n c k : Nat) (last : Int) (xs : List Int) (w : World) (H : Rdr bd o w g A n c last xs) (hk : n < k) :
  Calls Tryz.prog 103 #[.pointer (some ⟨g, 0, none⟩), .int .i64 k] w fun e w' => e = .panicked [{ v := .iface 145 (.agg #[]), recovered := false }] ∧ w = w' :=
 take_no g A n c k _ _ w H.hg hk
def recN (xs : List Int) : Int := numb (xs.take 8)
def recS (xs : List Int) : Int := numb ((xs.drop 8).take 2)
def RecPost (bd : Nat) (o : Option Obj) (g n : Nat) (xs : List Int) (w : World) (e : Ending) (w' : World) : Prop :=
 ∃ A2 c2, e = .returned (.agg #[.int .i64 (recN xs), .slice A2 ((xs.drop 10).take (recS xs).toNat).length c2]) ∧
  Kd.R (Kd.int .u8) 5 w' w.heap.size (fun _ => True) (.slice A2 ((xs.drop 10).take (recS xs).toNat).length c2) ((xs.drop 10).take (recS xs).toNat) ∧
  w.grownBy w' (some g) ∧ ∃ A' c', Rdr bd o w' g A' (n - 10 - (recS xs).toNat) c' (recN xs) (xs.drop (10 + (recS xs).toNat))
theorem rec_post {bd : Nat} {o : Option Obj} {w w0 w3 w4 w5 : World} {g n sz : Nat} {xs : List Int} {A5 A4 : Option Addr} {c5 c4 : Nat} {ob : Obj} (hw0 : w0 = w.alloc ob) (hg : g < w.heap.size) (hsz : recS xs = sz)
  (G3 : w0.grownBy w3 (some g)) (G4 : w3.drew.grownBy w4 (some g)) (F : FreshB w4 w5 (.slice A5 (List.take sz (List.drop 2 (List.drop 8 xs))).length c5) (List.take sz (List.drop 2 (List.drop 8 xs))))
  (H4 : Rdr bd o w4 g A4 (n - 8 - 2 - sz) c4 (numb (List.take 8 xs)) (List.drop sz (List.drop 2 (List.drop 8 xs)))) (hW : bd < w.heap.size) (a b : Value) :
  RecPost bd o g n xs w (.returned (.agg #[.int .i64 (numb (List.take 8 xs)), .slice A5 (List.take sz (List.drop 2 (List.drop 8 xs))).length c5])) ((w5.setCell ⟨w.heap.size, 0, none⟩ a).setCell ⟨w.heap.size, 1, none⟩ b) := by
 have e1 : List.drop 2 (List.drop 8 xs) = xs.drop 10 := by rw [List.drop_drop]
 have e2 : (recS xs).toNat = sz := by rw [hsz]; rfl
 have s0 : w.heap.size + 1 ≤ w0.heap.size := by subst hw0; simp
 have s3 := G3.size
 have s4 : w3.heap.size ≤ w4.heap.size := G4.size
 have s5 := F.2.size
 rw [e1] at F H4
 refine ⟨A5, c5, by rw [e2, e1]; rfl, ?_, ?_, A4, c4, ?_⟩
 ·rw [e2]
  have R := Kd.R_lower (Kd.R_bound F.1) (show w.heap.size ≤ w4.heap.size by omega)
  have R' := Kd.R_far (p := ⟨w.heap.size, 1, none⟩) (Kd.R_far (p := ⟨w.heap.size, 0, none⟩) R (fun k hk => by have := hk.2.1; simp; omega) a) (fun k hk => by have := hk.2.1; simp; omega) b
  exact Kd.R_mono R' (fun _ _ => trivial)
 ·have ga : w.grownBy w0 (some g) := by subst hw0; exact World.grownBy_alloc _ _ _
  have gd : w3.grownBy w4 (some g) := ⟨G4.os, G4.tape, G4.output, G4.size, G4.block⟩
  have g5 := grown_trans (grown_trans (grown_trans ga G3) gd) (grown_of_below F.2 (some g))
  refine ⟨g5.os, g5.tape, g5.output, ?_, fun k hk hr => ?_⟩
  ·simp [World.setCell]; exact g5.size
  ·rw [Below.heap_setCell _ _ _ _ (by simp; omega), Below.heap_setCell _ _ _ _ (by simp; omega)]; exact g5.block k hk hr
 ·rw [e2]
  have e3 : n - 8 - 2 - sz = n - 10 - sz := by omega
  have e4 : List.drop sz (List.drop 10 xs) = List.drop (10 + sz) xs := by rw [List.drop_drop]
  rw [e3, e4] at H4
  exact ((H4.below F.2).far ⟨w.heap.size, 0, none⟩ a (by simp; omega) (by simp; omega)).far ⟨w.heap.size, 1, none⟩ b (by simp; omega) (by simp; omega)
set_option maxHeartbeats 1000000 in
theorem record_yes (bd : Nat) (o : Option Obj) (g : Nat) (A : Option Addr) (n c : Nat) (last : Int) (xs : List Int) (w : World) (H : Rdr bd o w g A n c last xs)
  (h10 : 10 ≤ n) (hN1 : 1 ≤ recN xs) (hN2 : recN xs ≤ 4611686018427387904) (hN3 : last < recN xs) (hS1 : recS xs ≤ 4000) (hS2 : recS xs ≤ n - 10) (hlast : 0 ≤ last) :
  Calls Tryz.prog 92 #[.pointer (some ⟨g, 0, none⟩)] w fun e w' => RecPost bd o g n xs w e w' := by
 have hgl := blk_lt H.hg
 have H0 := H.alloc (Obj.cells #[Value.int IntKind.i64 0, Value.slice none 0 0] 40)
 have hrc : Hid ((w.alloc (Obj.cells #[Value.int IntKind.i64 0, Value.slice none 0 0] 40)).heap[w.heap.size]? = some (.cells #[Value.int IntKind.i64 0, Value.slice none 0 0] 40 (0, 0))) := blk_new w _
 have n1 : 1 ≤ numb (xs.take 8) := hN1
 have n2 : numb (xs.take 8) ≤ 4611686018427387904 := hN2
 have n3 : last < numb (xs.take 8) := hN3
 have n4 : numb ((xs.drop 8).take 2) ≤ 4000 := hS1
 have n5 := (numb_bound _ ((xs.drop 8).take 2) rfl (bytes_take (bytes_drop H.hb 8) 2)).1
 have n6 : numb ((xs.drop 8).take 2) ≤ n - 10 := hS2
 go_enter Tryz.func92, Tryz.ntmps92
 go_wp2_with fail
 generalize hw0 : w.alloc (Obj.cells #[Value.int IntKind.i64 0, Value.slice none 0 0] 40) = w0 at *
 have HW0 := Aside0.mk hw0.symm
 clear hw0
 refine (takeR_yes bd o g A n c 8 last xs _ H0 (by omega)).mono ?_
 rintro e w1 ⟨A1, c1, rfl, H1, G1⟩
 go_wp2_with fail
 refine (number_u64n A 8 c (xs.take 8) w1 (by have := H0.len; simp; omega) (C_takeN (H0.hr _ H1.ho) 8 (by omega)) (by have := H.hn; omega) (by omega) (bytes_take H0.hb 8)).mono ?_
 rintro e w1' ⟨rfl, rfl⟩
 obtain ⟨k0, k1, f0, f1, l1⟩ := H1.cells
 go_wp2_with fail
 refine (must_yes _).mono ?_
 rintro e w1' ⟨rfl, rfl⟩
 go_wp2_with fail
 generalize hw2 : w1.setCell ⟨g, 1, none⟩ _ = w2
 have H2 : Rdr bd o w2 g A1 (n - 8) c1 (numb (xs.take 8)) (xs.drop 8) := by rw [← hw2]; exact H1.last_ _
 have G2 : w0.grownBy w2 (some g) := grown_trans G1 (by rw [← hw2]; exact grown_set 1 _)
 clear hw2 k0 k1 f0 f1 l1
 refine (takeR_yes bd o g A1 (n - 8) c1 2 _ _ _ H2 (by omega)).mono ?_
 rintro e w3 ⟨A3, c3, rfl, H3, G3⟩
 have G3' := grown_trans G2 G3
 clear G3 G2 G1
 go_wp2_with fail
 refine (number_u16n A1 2 c1 ((xs.drop 8).take 2) w3 (by have := H0.len; simp; omega) (C_takeN (H2.hr _ H3.ho) 2 (by omega)) (by have := H2.hn; omega) (by omega) (bytes_take H2.hb 2)).mono ?_
 rintro e w1' ⟨rfl, rfl⟩
 go_wp2_with fail
 refine (must_yes _).mono ?_
 rintro e w1' ⟨rfl, rfl⟩
 go_wp2_with fail
 obtain ⟨sz, hsz⟩ := Int.eq_ofNat_of_zero_le n5
 obtain ⟨k30, k31, f30, f31, l3⟩ := H3.cells
 rw [hsz]
 have S1 : sz ≤ 4000 := by omega
 have S2 : sz ≤ n - 8 - 2 := by omega
 have HSZ : Aside0 (recS xs = sz) := ⟨hsz⟩
 clear hsz n4 n5 n6
 have hc3 : n - 8 - 2 ≤ maxLen := H3.hc
 have hn3 : n - 8 - 2 ≤ c3 := H3.hn
 have R3 : w3.heap[w.heap.size]? = some (.cells #[Value.int IntKind.i64 0, Value.slice none 0 0] 40 (0, 0)) := (G3'.block _ (blk_lt hrc.out) (by simp; omega)).trans hrc.out
 have R3' := Aside0.mk R3
 clear R3
 go_region_with (first
  | (go_at_call 103; refine (takeR_yes bd o g A3 (n - 8 - 2) c3 sz _ _ _ H3.drew S2).mono ?_; rintro e w4 ⟨A4, c4, rfl, H4, G4⟩; have R4 := Aside0.mk ((G4.block _ (blk_lt R3'.out) (by simp; omega)).trans R3'.out); obtain ⟨k40, k41, f40, f41, l4⟩ := H4.cells)
  | (go_at_call 61; go_loud (refine (clone_n A3 sz c3 (((xs.drop 8).drop 2).take sz) _ (by rw [List.length_take, H3.len]; omega) (C_takeN (H3.hr _ H4.ho) sz S2) (by omega) (by omega)).mono ?_); rintro e w5 ⟨v5, rfl, F5⟩; obtain ⟨A5, c5, rfl, hl5, hC5⟩ := Kd.R_reads F5.1; have F5 := Aside0.mk F5; have HC5 := Aside0.mk hC5; clear hC5; have F52 := F5.out.2; have R5 := blk_below R4.out F52; have R50 := blk_cell R5 0; have R51 := blk_cell R5 1; have R5f := blk_frozen R5 0; have R5g := blk_frozen R5 1; simp at R50 R51; have H5 := H4.below F52; obtain ⟨k50, k51, f50, f51, l5⟩ := H5.cells; clear R5))
 all_goals
  go_wp2
  refine bodyPost_ret (v := .agg #[.int .i64 (numb (List.take 8 xs)), .slice A5 (List.take sz (List.drop 2 (List.drop 8 xs))).length c5]) (by simp [results, Tryz.results92, go_sem, R50, R51, l5]) rfl ?_
  exact rec_post HW0.out hgl HSZ.out G3' G4 F5.out H4 H.hbd _ _
def RecOk (n : Nat) (last : Int) (xs : List Int) : Prop := 10 ≤ n ∧ 1 ≤ recN xs ∧ recN xs ≤ 4611686018427387904 ∧ last < recN xs ∧ recS xs ≤ 4000 ∧ recS xs ≤ n - 10
theorem rec_no_post {w w0 w1 : World} {g : Nat} {o : Obj} (hw0 : w0 = w.alloc o) (G : w0.grownBy w1 (some g)) : w.grownBy w1 (some g) := by
 have ga : w.grownBy w0 (some g) := by subst hw0; exact World.grownBy_alloc _ _ _
 exact grown_trans ga G
theorem grown_refl (w : World) (r : Option Nat) : w.grownBy w r := ⟨rfl, rfl, rfl, Nat.le_refl _, fun _ _ _ => rfl⟩
set_option maxHeartbeats 1000000 in
theorem record_no (bd : Nat) (o : Option Obj) (g : Nat) (A : Option Addr) (n c : Nat) (last : Int) (xs : List Int) (w : World) (H : Rdr bd o w g A n c last xs) (hno : ¬ RecOk n last xs) (hlast : 0 ≤ last) :
  Calls Tryz.prog 92 #[.pointer (some ⟨g, 0, none⟩)] w fun e w' => e = .panicked [{ v := .iface 145 (.agg #[]), recovered := false }] ∧ w.grownBy w' (some g) := by
 have hgl := blk_lt H.hg
 have H0 := H.alloc (Obj.cells #[Value.int IntKind.i64 0, Value.slice none 0 0] 40)
 have hrc : Hid ((w.alloc (Obj.cells #[Value.int IntKind.i64 0, Value.slice none 0 0] 40)).heap[w.heap.size]? = some (.cells #[Value.int IntKind.i64 0, Value.slice none 0 0] 40 (0, 0))) := blk_new w _
 have nb := numb_bound _ ((xs.drop 8).take 2) rfl (bytes_take (bytes_drop H.hb 8) 2)
 have n5 := nb.1
 have n7 : numb ((xs.drop 8).take 2) < 65536 := by
  have h2 : ((xs.drop 8).take 2).length ≤ 2 := List.length_take_le _ _
  have := pow256 _ 2 h2
  omega
 have m5 := (numb_bound _ (xs.take 8) rfl (bytes_take H.hb 8)).1
 clear nb
 go_enter Tryz.func92, Tryz.ntmps92
 go_wp2_with fail
 generalize hw0 : w.alloc (Obj.cells #[Value.int IntKind.i64 0, Value.slice none 0 0] 40) = w0 at *
 have HW0 := Aside0.mk hw0.symm
 clear hw0
 by_cases h8 : n < 8
 ·refine (takeR_no bd o g A n c 8 last xs _ H0 h8).mono ?_
  rintro e w1 ⟨rfl, rfl⟩
  exact ⟨rfl, rfl, rec_no_post HW0.out (grown_refl _ _)⟩
 refine (takeR_yes bd o g A n c 8 last xs _ H0 (by omega)).mono ?_
 rintro e w1 ⟨A1, c1, rfl, H1, G1⟩
 go_wp2_with fail
 refine (number_u64n A 8 c (xs.take 8) w1 (by have := H0.len; simp; omega) (C_takeN (H0.hr _ H1.ho) 8 (by omega)) (by have := H.hn; omega) (by omega) (bytes_take H0.hb 8)).mono ?_
 rintro e w1' ⟨rfl, rfl⟩
 obtain ⟨k0, k1, f0, f1, l1⟩ := H1.cells
 by_cases n1 : 1 ≤ numb (xs.take 8)
 rotate_left
 ·have n1' : decide (1 ≤ numb (xs.take 8)) = false := decide_eq_false n1
  clear n1
  go_wp2_with fail
  refine (must_no _).mono ?_
  rintro e w1' ⟨rfl, rfl⟩
  exact ⟨rfl, rfl, rec_no_post HW0.out G1⟩
 by_cases n2 : numb (xs.take 8) ≤ 4611686018427387904
 rotate_left
 ·have n2' : decide (numb (xs.take 8) ≤ 4611686018427387904) = false := decide_eq_false n2
  clear n2
  go_wp2_with fail
  refine (must_no _).mono ?_
  rintro e w1' ⟨rfl, rfl⟩
  exact ⟨rfl, rfl, rec_no_post HW0.out G1⟩
 by_cases n3 : last < numb (xs.take 8)
 rotate_left
 ·have n3' : decide (last < numb (xs.take 8)) = false := decide_eq_false n3
  clear n3
  go_wp2_with fail
  refine (must_no _).mono ?_
  rintro e w1' ⟨rfl, rfl⟩
  exact ⟨rfl, rfl, rec_no_post HW0.out G1⟩
 go_wp2_with fail
 refine (must_yes _).mono ?_
 rintro e w1' ⟨rfl, rfl⟩
 go_wp2_with fail
 generalize hw2 : w1.setCell ⟨g, 1, none⟩ _ = w2
 have H2 : Rdr bd o w2 g A1 (n - 8) c1 (numb (xs.take 8)) (xs.drop 8) := by rw [← hw2]; exact H1.last_ _
 have G2 : w0.grownBy w2 (some g) := grown_trans G1 (by rw [← hw2]; exact grown_set 1 _)
 clear hw2 k0 k1 f0 f1 l1
 by_cases h10 : n - 8 < 2
 ·refine (takeR_no bd o g A1 (n - 8) c1 2 _ _ _ H2 h10).mono ?_
  rintro e w1 ⟨rfl, rfl⟩
  exact ⟨rfl, rfl, rec_no_post HW0.out G2⟩
 refine (takeR_yes bd o g A1 (n - 8) c1 2 _ _ _ H2 (by omega)).mono ?_
 rintro e w3 ⟨A3, c3, rfl, H3, G3⟩
 have G3' := grown_trans G2 G3
 clear G3 G2 G1
 go_wp2_with fail
 refine (number_u16n A1 2 c1 ((xs.drop 8).take 2) w3 (by have := H0.len; simp; omega) (C_takeN (H2.hr _ H3.ho) 2 (by omega)) (by have := H2.hn; omega) (by omega) (bytes_take H2.hb 2)).mono ?_
 rintro e w1' ⟨rfl, rfl⟩
 by_cases n4 : numb ((xs.drop 8).take 2) ≤ 4000
 rotate_left
 ·have n4' : decide (numb ((xs.drop 8).take 2) ≤ 4000) = false := decide_eq_false n4
  clear n4
  go_wp2_with fail
  refine (must_no _).mono ?_
  rintro e w1' ⟨rfl, rfl⟩
  exact ⟨rfl, rfl, rec_no_post HW0.out G3'⟩
 go_wp2_with fail
 refine (must_yes _).mono ?_
 rintro e w1' ⟨rfl, rfl⟩
 go_wp2_with fail
 have n6 : ¬ numb ((xs.drop 8).take 2) ≤ n - 10 := fun h => hno ⟨by omega, n1, n2, n3, n4, h⟩
 obtain ⟨sz, hsz⟩ := Int.eq_ofNat_of_zero_le n5
 obtain ⟨k30, k31, f30, f31, l3⟩ := H3.cells
 rw [hsz]
 have S2 : n - 8 - 2 < sz := by omega
 clear hsz n4 n5 n6 n7 hno
 go_region_dies
 all_goals
  go_at_call 103
  refine (takeR_no bd o g A3 (n - 8 - 2) c3 sz _ _ _ H3.drew S2).mono ?_
  rintro e w4 ⟨rfl, rfl⟩
  exact ⟨rfl, rfl, rec_no_post HW0.out ⟨G3'.os, G3'.tape, G3'.output, G3'.size, G3'.block⟩⟩
theorem loadHalf (ρ : Operand → Value) (d : Option Tmp) (x : Operand) (ty : TypeId) (p : String) (af : Array Edge) (g : Option (Nat × Bool)) (w : World) :
  (execOp ρ { dst := d, op := .load 126 x, type := ty, pos := p, after := af, guard := g }).run Tryz.prog w =
   match ρ x with
   | .pointer (some a) => (match rowAt w a 32 with | some cs => .ok (.value (.agg cs.toArray)) w | none => elseLoad Tryz.prog 126 (.pointer (some a)) w)
   | v => elseLoad Tryz.prog 126 v w :=
 run_execLoad (n := 32) (e := 5) (by kernel_rfl) (by kernel_rfl) ρ d x ty p af g w
theorem rowAt_C {w : World} {a : Addr} {n : Nat} {xs : List Int} (h : Kd.C (Kd.int .u8) w (some a) n xs) (m : Nat) (hm : m ≤ n) : rowAt w a m = some (nums .u8 (xs.take m)) := by
 have hn := C_len h
 refine rowAt_some.2 ⟨by simp [nums]; omega, fun j v hv => ?_⟩
 have hj : j < m := by have := (List.getElem?_eq_some_iff.1 hv).1; simp [nums] at this; omega
 obtain ⟨ad, x, e, hc, hX⟩ := cellN h j (by omega) (by omega)
 injection e with e; subst e
 rw [hc]
 have : (xs.take m)[j]? = some x := by rw [List.getElem?_take_of_lt hj]; exact hX.out
 rw [nums, List.getElem?_map, this] at hv
 rw [← hv]; rfl
/-- a block of the disk -/
def blkL (xs : List Int) (i : Nat) : List Int := (xs.drop (i * 64)).take 64
/-- what the closure of 'read' captures: the disk's bytes lie below W0 -/
structure RdEnv (W0 w : World) (qb qh qs : Nat) (ad : Addr) (n c i : Nat) (xs : List Int) : Prop where
 hb : w.heap[qb]? = some (.cells #[.slice (some ad) n c] 22 (0, 0))
 hh : w.heap[qh]? = some (.cells #[.int .i64 i] 3 (0, 0))
 hr : Kd.C (Kd.int .u8) W0 (some ad) n xs
 hn : n ≤ c
 hc : n ≤ maxLen
 hbt : IsBytes xs
 hB : Below W0.heap.size W0 w
 b0 : W0.heap.size ≤ qb
 h0 : W0.heap.size ≤ qh
 s0 : W0.heap.size ≤ qs
 bh : qb ≠ qh
 bs : qb ≠ qs
 hs : qh ≠ qs
theorem RdEnv.move {W0 w w1 : World} {qb qh qs : Nat} {ad : Addr} {n c i : Nat} {xs : List Int} (E : RdEnv W0 w qb qh qs ad n c i xs) (h : w.grownBy w1 (some qs)) : RdEnv W0 w1 qb qh qs ad n c i xs where
 hb := (h.block qb (blk_lt E.hb) (by have := E.bs; simpa using this)).trans E.hb
 hh := (h.block qh (blk_lt E.hh) (by have := E.hs; simpa using this)).trans E.hh
 hr := E.hr
 hn := E.hn
 hc := E.hc
 hbt := E.hbt
 hB := E.hB.grown h E.hB.size (fun k hk => by injection hk with hk; have := E.s0; omega)
 b0 := E.b0
 h0 := E.h0
 s0 := E.s0
 bh := E.bh
 bs := E.bs
 hs := E.hs
theorem RdEnv.cells {W0 w : World} {qb qh qs : Nat} {ad : Addr} {n c i : Nat} {xs : List Int} (E : RdEnv W0 w qb qh qs ad n c i xs) : w.cell? ⟨qb, 0, none⟩ = some (.slice (some ad) n c) ∧ w.cell? ⟨qh, 0, none⟩ = some (.int .i64 i) := by
 have h1 := blk_cell E.hb 0
 have h2 := blk_cell E.hh 0
 exact ⟨by simpa using h1, by simpa using h2⟩
theorem RdEnv.move2 {W0 w w1 : World} {qb qh qs : Nat} {ad : Addr} {n c i : Nat} {xs : List Int} (E : RdEnv W0 w qb qh qs ad n c i xs) {B : Nat} (h : Below B w w1) (h1 : qb < B) (h2 : qh < B) (h3 : W0.heap.size ≤ B) : RdEnv W0 w1 qb qh qs ad n c i xs where
 hb := (h.block qb h1).trans E.hb
 hh := (h.block qh h2).trans E.hh
 hr := E.hr
 hn := E.hn
 hc := E.hc
 hbt := E.hbt
 hB := E.hB.trans (h.mono h3)
 b0 := E.b0
 h0 := E.h0
 s0 := E.s0
 bh := E.bh
 bs := E.bs
 hs := E.hs
theorem sub_C {w : World} {a0 : Addr} {n : Nat} {xs : List Int} (h : Kd.C (Kd.int .u8) w (some a0) n xs) (k m : Nat) (hk : 0 < k) (hm : k + m ≤ n) (h0 : 0 < m) : Kd.C (Kd.int .u8) w (some ⟨a0.block, a0.off + k, none⟩) m ((xs.drop k).take m) := by
 have h1 := C_takeN (C_dropN (c := n) h k (by omega) (Nat.le_refl _)) m (by omega)
 rw [if_neg (by omega), Option.map_some] at h1
 have e : a0.add k = ⟨a0.block, a0.off + k, none⟩ := by simp [Addr.add]; omega
 rwa [e] at h1
theorem number_u16k (k : Nat) (A : Option Addr) (n c : Nat) (xs : List Int) (w : World) (hk : numb xs = k) (hn : xs.length = n) (hr : Kd.C (Kd.int .u8) w A n xs) (hc : n ≤ c) (hx : n ≤ 2) (hb : IsBytes xs) :
  Calls Tryz.prog 89 #[.slice A n c] w fun e w' => e = .returned (.int .u16 k) ∧ w = w' := by
 rw [← hk]; exact number_u16n A n c xs w hn hr hc hx hb
theorem number_u64k (k : Nat) (A : Option Addr) (n c : Nat) (xs : List Int) (w : World) (hk : numb xs = k) (hn : xs.length = n) (hr : Kd.C (Kd.int .u8) w A n xs) (hc : n ≤ c) (hx : n ≤ 8) (hb : IsBytes xs) :
  Calls Tryz.prog 90 #[.slice A n c] w fun e w' => e = .returned (.int .u64 k) ∧ w = w' := by
 rw [← hk]; exact number_u64n A n c xs w hn hr hc hx hb
theorem numb_nat (xs : List Int) (h : IsBytes xs) (n : Nat) (hn : xs.length ≤ n) : ∃ k : Nat, numb xs = k ∧ k < 256 ^ n := by
 have hb := numb_bound _ xs rfl h
 obtain ⟨k, hk⟩ := Int.eq_ofNat_of_zero_le hb.1
 have := pow256 _ n hn
 refine ⟨k, hk, ?_⟩
 have e : (256 : Int) ^ n = ((256 ^ n : Nat) : Int) := by rw [Int.natCast_pow]; rfl
 omega
/-- the blocks of a chain, and their bytes -/
def chainF (d : List Int) (nb : Nat) : Nat → Nat → List Nat → List Int → Option (List Nat × List Int)
 | 0, a, used, all => if a = 0 then some (used, all) else none
 | m + 1, a, used, all => if 2 ≤ a ∧ a < nb ∧ used.contains a = false then chainF d nb m (numb ((blkL d a).take 2)).toNat (used ++ [a]) (all ++ (blkL d a).drop 2) else none
def usedMap (used : List Nat) : List (Int × Value) := used.map fun (a : Nat) => ((a : Int), Value.bool true)
theorem usedMap_get (used : List Nat) (a : Nat) : ((mget (usedMap used) (a : Int)).getD (.bool false)) = .bool (used.contains a) := by
 induction used with
 | nil => rfl
 | cons b used ih =>
  by_cases h : a = b
  ·subst h; simp [usedMap, mget]
  ·have e : mget (usedMap (b :: used)) (a : Int) = mget (usedMap used) (a : Int) := by
    have hb : ¬ (a : Int) = (b : Int) := by omega
    simp only [usedMap, mget, List.map_cons, List.find?_cons, hb, decide_false]
   rw [e, ih]; simp [h]
theorem usedMap_put (used : List Nat) (a : Nat) (h : used.contains a = false) : mput (usedMap used) (a : Int) (.bool true) = usedMap (used ++ [a]) := by
 induction used with
 | nil => rfl
 | cons b used ih =>
  simp at h
  have hb : ¬ (a : Int) = (b : Int) := by omega
  have := ih (by simp [h.2])
  simp only [usedMap, List.map_cons, List.cons_append, mput, if_neg hb] at this ⊢
  rw [this]
/-- the loop over the chain -/
def ChainRel (W0 w w2 : World) (qb qh qs mb : Nat) (ad : Addr) (nb c i : Nat) (xs : List Int) (ver many at0 : Nat) (v a k : Value) (wr : World) : Prop :=
 ∃ (k' a' : Nat) (used : List Nat) (all : List Int), k = .int .i64 k' ∧ a = .int .i64 a' ∧ k' ≤ many ∧ a' < 65536 ∧
  Aside0 (chainF xs nb (many - k') a' used all = chainF xs nb many at0 [] []) ∧ Aside0 (Kd.R (Kd.int .u8) 5 wr w2.heap.size (fun _ => True) v all) ∧ all.length = 62 * k' ∧ Aside0 (IsBytes all) ∧
  Aside0 (MapAt kInt wr mb (usedMap used)) ∧ Aside0 (wr.heap[qs]? = some (.cells #[.int .i64 i, .int .i64 ver, .map (some mb), .slice none 0 0] 79 (0, 0))) ∧
  RdEnv W0 wr qb qh qs ad (nb * 64) c i xs ∧ Aside0 (w.grownBy wr (some qs)) ∧ w2.heap.size ≤ wr.heap.size ∧ wr.heap[mb]? ≠ none
theorem four_set {w : World} {g : Nat} {t : TypeId} {a b c d : Value} (h : w.heap[g]? = some (.cells #[a, b, c, d] t (0, 0))) (a' b' c' d' : Value) :
  ((((w.setCell ⟨g, 0, none⟩ a').setCell ⟨g, 1, none⟩ b').setCell ⟨g, 2, none⟩ c').setCell ⟨g, 3, none⟩ d').heap[g]? = some (.cells #[a', b', c', d'] t (0, 0)) := by
 have h0 := blk_set h 0 a'
 simp at h0
 have h1 := blk_set h0 1 b'
 simp at h1
 have h2 := blk_set h1 2 c'
 simp at h2
 have h3 := blk_set h2 3 d'
 simpa using h3
theorem RdEnv.blk {W0 w : World} {qb qh qs : Nat} {ad : Addr} {n c i : Nat} {xs : List Int} (E : RdEnv W0 w qb qh qs ad n c i xs) (j : Nat) (hj : (j + 1) * 64 ≤ n) : Kd.C (Kd.int .u8) W0 (some (ad.add (j * 64))) 64 (blkL xs j) := by
 have hn := E.hn
 have h1 := C_takeN (C_dropN E.hr (j * 64) (by omega) E.hn) 64 (by omega)
 rw [if_neg (by omega), Option.map_some] at h1
 exact h1
theorem chain_step (d : List Int) (nb m a : Nat) (used : List Nat) (all : List Int) (a2 : Nat) (h1 : 2 ≤ a) (h2 : a < nb) (h3 : used.contains a = false) (h4 : numb ((blkL d a).take 2) = a2) :
  chainF d nb (m + 1) a used all = chainF d nb m a2 (used ++ [a]) (all ++ (blkL d a).drop 2) := by
 rw [chainF, if_pos ⟨h1, h2, h3⟩, h4]; rfl
theorem chain_no (d : List Int) (nb m a : Nat) (used : List Nat) (all : List Int) (h : ¬ (2 ≤ a ∧ a < nb ∧ used.contains a = false)) : chainF d nb (m + 1) a used all = none := by
 rw [chainF, if_neg h]
theorem grown_via {a b c : World} {q m : Nat} (h : a.grownBy b (some q)) (k : b.grownBy c (some m)) (hm : a.heap.size ≤ m) : a.grownBy c (some q) :=
 ⟨k.os.trans h.os, k.tape.trans h.tape, k.output.trans h.output, Nat.le_trans h.size k.size, fun i hi hr => (k.block i (Nat.lt_of_lt_of_le hi h.size) (by simp; omega)).trans (h.block i hi hr)⟩
theorem grown_then {a b c : World} {q B : Nat} (h : a.grownBy b (some q)) (k : Below B b c) (hm : a.heap.size ≤ B) : a.grownBy c (some q) :=
 ⟨k.os.trans h.os, k.tape.trans h.tape, k.output.trans h.output, Nat.le_trans h.size k.size, fun i hi hr => (k.block i (by omega)).trans (h.block i hi hr)⟩
instance (n : Nat) (last : Int) (xs : List Int) : Decidable (RecOk n last xs) := by unfold RecOk; infer_instance
/-- what is read of bytes, record by record -/
def recsF : Nat → Int → List Int → Option (List S40)
 | 0, _, xs => if xs.length = 0 then some [] else none
 | f + 1, last, xs => if xs.length = 0 then some [] else if RecOk xs.length last xs then (recsF f (recN xs) (xs.drop (10 + (recS xs).toNat))).map (fun l => (⟨recN xs, (xs.drop 10).take (recS xs).toNat⟩ : S40) :: l) else none
/-- what a right head tells -/
structure HSt where
 ver : Int
 used : List Nat
 recs : List S40
def HeadOk (h : List Int) (nb many size ver : Nat) : Prop := h.take 32 = h.drop 32 ∧ isZ ((h.drop 6).take 18) = true ∧ 1 ≤ ver ∧ ver ≤ 1099511627776 ∧ many ≤ (nb - 2) / 2 ∧ size ≤ many * 62 ∧ (many = 0 ∨ size > (many - 1) * 62)
instance (h : List Int) (nb many size ver : Nat) : Decidable (HeadOk h nb many size ver) := by unfold HeadOk; infer_instance
def headG (xs : List Int) (nb many size at0 ver : Nat) : Option HSt :=
 match chainF xs nb many at0 [] [] with
 | none => none
 | some (used, all) => if isZ (all.drop size) = true then (recsF size 0 (all.take size)).map (fun rs => ⟨ver, used, rs⟩) else none
def headF (xs : List Int) (nb i : Nat) : Option HSt :=
 let h := blkL xs i
 let many := (numb (h.take 2)).toNat
 let size := (numb ((h.drop 2).take 2)).toNat
 let at0 := (numb ((h.drop 4).take 2)).toNat
 let ver := (numb ((h.drop 24).take 8)).toNat
 if HeadOk h nb many size ver then headG xs nb many size at0 ver else none
theorem headF_eq {xs h : List Int} {nb i many size at0 ver : Nat} (hh : h = blkL xs i) (h1 : numb (h.take 2) = many) (h2 : numb ((h.drop 2).take 2) = size) (h3 : numb ((h.drop 4).take 2) = at0) (h4 : numb ((h.drop 24).take 8) = ver) :
  headF xs nb i = if HeadOk h nb many size ver then headG xs nb many size at0 ver else none := by
 subst hh; simp [headF, h1, h2, h3, h4]
theorem own_stable {w : World} {base : Nat} {ok : Nat → Prop} {A : Option Addr} {n c : Nat} {xs : List Int} (h : Kd.R (Kd.int .u8) 5 w base ok (.slice A n c) xs) (q : Nat) (hq : q < w.heap.size) :
  ∃ bd, bd < w.heap.size ∧ (bd = q ∨ base ≤ bd) ∧ ∀ w' : World, w'.heap[bd]? = w.heap[bd]? → Kd.C (Kd.int .u8) w' A n xs := by
 obtain ⟨e1, e2, hC⟩ := Kd.R_reads' h
 subst e1
 cases A with
 | none =>
  have hx := C_none hC
  subst hx
  exact ⟨q, hq, .inl rfl, fun w' _ => Kd.C_nil _ _⟩
 | some ad =>
  have hlt : ad.block < w.heap.size := own_lt (Kd.own_of_R h) ad.block rfl
  refine ⟨ad.block, hlt, .inr (own_base (Kd.own_of_R h) ad.block rfl), fun w' hw => ?_⟩
  have h2 : Kd.R (Kd.int .u8) 5 w' base (fun k => k = ad.block) (.slice (some ad) xs.length c) xs := by
   refine Kd.R_of_own (own_move (Kd.own_of_R h) (fun k hk => ?_)) (fun k hk => ?_)
   ·have : ad.block = k := by simpa [Value.ownBlock] using hk
    rw [← this]; exact hw
   ·have : ad.block = k := by simpa [Value.ownBlock] using hk
    exact this.symm
  exact (Kd.R_reads' h2).2.2
theorem recs_step (f : Nat) (last : Int) (xs : List Int) (h : RecOk xs.length last xs) (acc : List S40) :
  (recsF (f + 1) last xs).map (acc ++ ·) = (recsF f (recN xs) (xs.drop (10 + (recS xs).toNat))).map ((acc ++ [(⟨recN xs, (xs.drop 10).take (recS xs).toNat⟩ : S40)]) ++ ·) := by
 have h0 : ¬ xs.length = 0 := by have := h.1; omega
 rw [recsF, if_neg h0, if_pos h, Option.map_map]
 congr 1
 funext l
 simp
theorem recs_no (f : Nat) (last : Int) (xs : List Int) (h0 : ¬ xs.length = 0) (h : ¬ RecOk xs.length last xs) : recsF (f + 1) last xs = none := by
 rw [recsF, if_neg h0, if_neg h]
/-- the loop over the records -/
def RecRel (w5 w : World) (bd : Nat) (o : Option Obj) (g qs mb i ver size : Nat) (all0 : List Int) (used : List Nat) (f : Nat) (wr : World) : Prop :=
 ∃ A n c last rest acc vr, Rdr bd o wr g A n c last rest ∧ Aside0 ((recsF f last rest).map (acc ++ ·) = recsF size 0 all0) ∧ rest.length ≤ f ∧ 0 ≤ last ∧
  Aside0 (wr.heap[qs]? = some (.cells #[.int .i64 i, .int .i64 ver, .map (some mb), vr] 79 (0, 0))) ∧ Aside0 (MapAt kInt wr mb (usedMap used)) ∧
  Aside0 (Kd.R k40 40 wr w5.heap.size (fun _ => True) vr acc) ∧ Aside0 (w.grownBy wr (some qs)) ∧ acc.length + f ≤ size ∧ w5.heap.size ≤ wr.heap.size
/-- append of one record, as a step of a region that draws -/
theorem app_parcel {ops : Array Oper} {o : Oper} {a : Act} {Q : Exit → Act → World → Prop} {Kc : Act → World → Prop} {W : World} {u1 u2 : Value} (base : Nat) (s x : Tmp) (v : Value) (xs : List S40) (p : S40) (okp : Nat → Prop)
  (hw : Region.wanted o (yielded ops a.tmps) = true) (ho : o.op = .call { callee := .builtin .append, args := #[.tmp s, .tmp x], argTypes := #[23, 23] })
  (hs : a.eval (.tmp s) = v) (hx : a.eval (.tmp x) = .slice (some ⟨W.heap.size, 0, none⟩) 1 1) (hp : k40.M W base okp p [u1, u2]) (hn : ∀ k, okp k → some k ≠ v.ownBlock)
  (HO : k40.R 40 W base (fun _ => True) v xs) (hbase : base ≤ W.heap.size) (hl : xs.length + 1 ≤ 65536)
  (h : ∀ v1 w1, k40.R 40 w1 base (fun _ => True) v1 (xs ++ [p]) → Below base W w1 → Kc (a.put o.dst v1) w1) :
  if Region.wanted o (yielded ops a.tmps) = true then Oper.wp Tryz.prog o a (W.alloc (.cells #[u1, u2] 40)) Kc Q else Kc (a.put o.dst undef) (W.alloc (.cells #[u1, u2] 40)) :=
 Kd.R_append_step k40 (w0 := W) base hw (.tmp s) (.tmp x) 23 40 (.agg #[.int .i64 0, .slice none 0 0]) 32 ho Tryz.underlying23 info40 rfl (by decide) (by omega) v xs p [u1, u2] (fun _ => True) okp hs hx hp (fun k hk => ⟨trivial, hn k hk⟩) (fun _ _ => trivial) HO (Below.refl _ _) hbase (by omega) (fun v1 w1 h1 h2 _ _ => h v1 w1 h1 h2)
/-- what a record read leaves, for the loop -/
structure RecStep (w wr w6 : World) (B g5 qs mb bd i ver n : Nat) (od : Option Obj) (vr : Value) (acc : List S40) (rest body : List Int) (used : List Nat) (A2 : Option Addr) (c2 : Nat) : Prop where
 c3 : w6.cell? ⟨qs, 3, none⟩ = some vr
 f3 : w6.frozen? ⟨qs, 3, none⟩ = false
 ho : Kd.R k40 40 w6 B (fun _ => True) vr acc
 hm : k40.M w6 B (fun k => wr.heap.size ≤ k) (⟨recN rest, body⟩ : S40) [.int .i64 (recN rest), .slice A2 body.length c2]
 hn : ∀ k, wr.heap.size ≤ k → some k ≠ vr.ownBlock
 hs : B ≤ w6.heap.size
 hq : w6.heap[qs]? = some (.cells #[.int .i64 i, .int .i64 ver, .map (some mb), vr] 79 (0, 0))
 hmap : MapAt kInt w6 mb (usedMap used)
 hg : w.grownBy w6 (some qs)
 hr : ∃ A' c', Rdr bd od w6 g5 A' (n - 10 - (recS rest).toNat) c' (recN rest) (rest.drop (10 + (recS rest).toNat))
theorem rec_step {w wr w5 : World} {g5 qs mb bd i ver n : Nat} {od : Option Obj} {vr : Value} {acc : List S40} {rest : List Int} {used : List Nat}
  (hq : wr.heap[qs]? = some (.cells #[.int .i64 i, .int .i64 ver, .map (some mb), vr] 79 (0, 0))) (hmap : MapAt kInt wr mb (usedMap used)) (hor : Kd.R k40 40 wr w5.heap.size (fun _ => True) vr acc)
  (hg : w.grownBy wr (some qs)) (hs : w5.heap.size ≤ wr.heap.size) (q5 : qs < w5.heap.size) (m5 : mb < w5.heap.size) (g55 : g5 < w5.heap.size) (nq : qs ≠ g5) (nm : mb ≠ g5) (wg : w.heap.size ≤ g5) {e : Ending} {w6 : World} (h : RecPost bd od g5 n rest wr.drew e w6) :
  ∃ A2 c2, e = .returned (.agg #[.int .i64 (recN rest), .slice A2 ((rest.drop 10).take (recS rest).toNat).length c2]) ∧ RecStep w wr w6 w5.heap.size g5 qs mb bd i ver n od vr acc rest ((rest.drop 10).take (recS rest).toNat) used A2 c2 := by
 obtain ⟨A2, c2, he, hb, hG, A', c', hR⟩ := h
 have hbk : ∀ k, k < wr.heap.size → k ≠ g5 → w6.heap[k]? = wr.heap[k]? := fun k hk hne => hG.block k hk (by simpa using hne)
 have hq6 : w6.heap[qs]? = some (.cells #[.int .i64 i, .int .i64 ver, .map (some mb), vr] 79 (0, 0)) := (hbk qs (by omega) nq).trans hq
 have hsz : wr.heap.size ≤ w6.heap.size := hG.size
 refine ⟨A2, c2, he, ⟨?_, blk_frozen hq6 3, ?_, ?_, ?_, by omega, hq6, hmap.move (hbk mb (by omega) nm), ?_, A', c', hR⟩⟩
 ·have := blk_cell hq6 3; simpa using this
 ·exact Kd.R_mono (Kd.R_step (Kd.R_mono (Kd.R_bound hor) (fun k hk => hk.2.1)) (fun k hk hlt => hbk k hlt (by omega))) (fun _ _ => trivial)
 ·refine k40_mkM w6 w5.heap.size (fun k => wr.heap.size ≤ k) _ ?_
  exact Kd.R_mono (Kd.R_lower (Kd.R_bound hb) hs) (fun k hk => hk.2.1)
 ·intro k hk he
  have := own_lt hor.2.choose_spec.1 k he.symm
  omega
 ·exact ⟨hG.os.trans hg.os, hG.tape.trans hg.tape, hG.output.trans hg.output, Nat.le_trans hg.size hsz, fun k hk hr => (hbk k (by have := hg.size; omega) (by omega)).trans (hg.block k hk hr)⟩
theorem rec_round {w w5 wr w6 w7 : World} {bd g5 qs mb i ver n size f' : Nat} {od : Option Obj} {vr v7 : Value} {acc : List S40} {all0 rest body : List Int} {used : List Nat} {last : Int} {A2 : Option Addr} {c2 : Nat}
  (F : RecStep w wr w6 w5.heap.size g5 qs mb bd i ver n od vr acc rest body used A2 c2) (hbody : body = (rest.drop 10).take (recS rest).toNat) (hR : Kd.R k40 40 w7 w5.heap.size (fun _ => True) v7 (acc ++ [(⟨recN rest, body⟩ : S40)]))
  (hB : Below w5.heap.size w6 w7) (hro : RecOk n last rest) (hrl : rest.length = n) (heq : (recsF (f' + 1) last rest).map (acc ++ ·) = recsF size 0 all0) (hrf : rest.length ≤ f' + 1) (hacc : acc.length + (f' + 1) ≤ size)
  (q5 : qs < w5.heap.size) (m5 : mb < w5.heap.size) (g55 : g5 < w5.heap.size) (b5 : bd < w5.heap.size) (nq : qs ≠ g5) (nm : mb ≠ qs) (nb : bd ≠ qs) (ww : w.heap.size ≤ w5.heap.size) :
  RecRel w5 w bd od g5 qs mb i ver size all0 used f' (w7.setCell ⟨qs, 3, none⟩ v7) := by
 obtain ⟨A', c', hr⟩ := F.hr
 have h1 := hr.move (hB.block bd b5) (hB.block g5 g55) hB.size
 have h2 := h1.far ⟨qs, 3, none⟩ v7 nb (fun e => nq e.symm)
 have hq7 := (hB.block qs q5).trans F.hq
 refine ⟨A', _, c', recN rest, _, acc ++ [(⟨recN rest, body⟩ : S40)], v7, h2, ⟨?_⟩, ?_, ?_, ⟨?_⟩, ⟨?_⟩, ⟨?_⟩, ⟨?_⟩, by simp; omega, ?_⟩
 ·rw [← heq, recs_step f' last rest (by rw [hrl]; exact hro), hbody]
 ·have := hro.1; rw [List.length_drop]; omega
 ·have := hro.2.1; omega
 ·have := blk_set hq7 3 v7; simpa using this
 ·exact (F.hmap.move (hB.block mb m5)).move (Below.heap_setCell _ _ _ _ nm)
 ·exact Kd.R_mono (Kd.R_far (p := ⟨qs, 3, none⟩) (Kd.R_mono (Kd.R_bound hR) (fun k hk => hk.2.1)) (fun k hk => by simp; omega) v7) (fun _ _ => trivial)
 ·exact grown_trans (grown_then F.hg hB ww) (grown_set 3 v7)
 ·have := hB.size; have := F.hs; simp [World.setCell]; omega
/-- the state's block, whatever it holds -/
def StAny (qs : Nat) (w : World) : Prop := ∃ x y m A n c, w.heap[qs]? = some (.cells #[.int .i64 x, .int .i64 y, .map m, .slice A n c] 79 (0, 0))
theorem StAny.of {qs : Nat} {w : World} {x y : Int} {m : Option Nat} {A : Option Addr} {n c : Nat} (h : w.heap[qs]? = some (.cells #[.int .i64 x, .int .i64 y, .map m, .slice A n c] 79 (0, 0))) : StAny qs w := ⟨_, _, _, _, _, _, h⟩
theorem StAny.ofR {qs : Nat} {w w0 : World} {x y : Int} {m : Option Nat} {vr : Value} {B : Nat} {ok : Nat → Prop} {l : List S40} (h : w.heap[qs]? = some (.cells #[.int .i64 x, .int .i64 y, .map m, vr] 79 (0, 0)))
  (hr : Kd.R k40 40 w0 B ok vr l) : StAny qs w := by
 obtain ⟨A, c, rfl, _⟩ := Kd.R_reads hr
 exact ⟨_, _, _, _, _, _, h⟩
theorem StAny.below {qs B : Nat} {w w' : World} (h : StAny qs w) (hb : Below B w w') (hq : qs < B) : StAny qs w' := by
 obtain ⟨_, _, _, _, _, _, h⟩ := h
 exact ⟨_, _, _, _, _, _, (hb.block qs hq).trans h⟩
/-- what the closure leaves -/
def R1Post (W0 : World) (qs i : Nat) (xs : List Int) (nb : Nat) (w : World) (e : Ending) (w' : World) : Prop :=
 match headF xs nb i with
 | none => e = .panicked [{ v := .iface 145 (.agg #[]), recovered := false }] ∧ w.grownBy w' (some qs) ∧ StAny qs w'
 | some st => e = .returned (.tuple #[]) ∧ w.grownBy w' (some qs) ∧ ∃ mb vr, w'.heap[qs]? = some (.cells #[.int .i64 i, .int .i64 st.ver, .map (some mb), vr] 79 (0, 0)) ∧
   MapAt kInt w' mb (usedMap st.used) ∧ w.heap.size ≤ mb ∧ Kd.R k40 40 w' w.heap.size (fun b => b ≠ mb) vr st.recs
theorem r1_some {W0 : World} {qs i : Nat} {xs : List Int} {nb : Nat} {w w' w5 : World} {st : HSt} {mb : Nat} {vr : Value} (h : headF xs nb i = some st) (hg : w.grownBy w' (some qs))
  (hq : w'.heap[qs]? = some (.cells #[.int .i64 i, .int .i64 st.ver, .map (some mb), vr] 79 (0, 0))) (hm : MapAt kInt w' mb (usedMap st.used)) (hmb : w.heap.size ≤ mb)
  (hr : Kd.R k40 40 w' w5.heap.size (fun _ => True) vr st.recs) (h5 : mb < w5.heap.size) : R1Post W0 qs i xs nb w (.returned (.tuple #[])) w' := by
 unfold R1Post; rw [h]
 refine ⟨rfl, hg, mb, vr, hq, hm, hmb, ?_⟩
 exact Kd.R_mono (Kd.R_lower (Kd.R_bound hr) (show w.heap.size ≤ w5.heap.size by omega)) (fun b hb => by have := hb.2.1; omega)
theorem r1_none {W0 : World} {qs i : Nat} {xs : List Int} {nb : Nat} {w w' : World} (h : headF xs nb i = none) (hg : w.grownBy w' (some qs)) (hq : StAny qs w') :
  R1Post W0 qs i xs nb w (.panicked [{ v := .iface 145 (.agg #[]), recovered := false }]) w' := by
 unfold R1Post; rw [h]; exact ⟨rfl, hg, hq⟩
end Go.Proofs.YtcdpkdehogcjnaaGreat.Print
