/- A range over a function that changes one captured variable; heads and records as bytes; what doing writes and tearing them comes to: contracts, whatever the input. -/
import Derived.RangeFuncNested
import Derived.RangeFuncBound
import Derived.RangeFuncCalls
import Derived.RangeFuncLeaves
import Derived.RangeFuncFrom
import Derived.Test.YtcdpkdehogcjnaaGreatProg
import Derived.RegionCalls
import Derived.OrdersIn
import Derived.OrdersHeld
import Derived.Deep.RegionHeld
import Derived.TacticsIn
import Derived.Test.YtcdpkdehogcjnaaGreatR2
import Derived.Test.YtcdpkdehogcjnaaGreatR3
import Derived.Test.YtcdpkdehogcjnaaGreatRA
import Derived.Laws.CopyOwn
import Derived.Deep.RegionLaw
import Derived.Test.YtcdpkdehogcjnaaGreatRB
import Derived.BigQuiet
import Derived.Deep.QuietTactic
import Derived.Test.YtcdpkdehogcjnaaGreatR4
import Derived.RangeFuncBox
import Derived.Shelf.Abstract
import Derived.OwnWalkIn
import Derived.TacticsInMore
import Derived.LoopNIn
import Derived.LoopIn
set_option linter.unusedVariables false
set_option linter.unusedSimpArgs false
namespace Go.Proofs.YtcdpkdehogcjnaaGreat.Print
open Go Go.RowKit
variable {F : Fence} {n : Nat} {P : Program}
/-- what such an iterator does: it hands on xs, one by one, and stores into its own variable alone -/
def SeqBox {α : Type} (F : Fence) (n : Nat) (P : Program) (g : Nat) (lb : Array Value) (encs : α → Array Value) (bB : Nat) (ob : Obj) (xs : List α) : Prop :=
 ∀ (l : Nat) (J : List α → World → Prop) (W : World), (∀ s W v, J s W → J s (W.setCell ⟨bB, 0, none⟩ v)) → (∀ s W, J s W → bB < W.heap.size) →
  (∀ pre x W1, J pre W1 → pre ++ [x] <+: xs → YieldAt F (n - 1) P l (encs x) W1 fun e W' => e = .returned (.bool true) ∧ J (pre ++ [x]) W' ∧ W'.heap[bB]? = W1.heap[bB]?) →
  W.heap[bB]? = some ob → J [] W →
  CallsIn F n P g (#[.func (.yield l) #[] #[]] ++ lb) W fun e W' => (∃ v, e = .returned v) ∧ J xs W'
theorem box_other {W : World} {bB k : Nat} (v : Value) (h : k ≠ bB) : (W.setCell ⟨bB, 0, none⟩ v).heap[k]? = W.heap[k]? := Below.heap_setCell _ _ _ _ h
theorem wpIn_rangeFunc_box {α : Type} {g : Operand} {ps : Array Tmp} {assign body : Code} {Q : Exit → Act → World → Prop} {a : Act} {w : World}
  (hro : F.round = none) (h1 : 1 ≤ n) {gf : Nat} {lb : Array Value} (hg : a.eval g = .func (.func gf) #[] lb) (hFg : F.fn gf) (eg : ∀ args w, (callFunc gf args).run P w = .ok (.enter gf args) w)
  {encs : α → Array Value} {bB : Nat} {ob : Obj} {xs : List α} (hseq : SeqBox F (n - 1) P gf lb encs bB ob xs) (hob : w.heap[bB]? = some ob) (hcells : ob.isCells = true)
  (hps : ∀ x, (encs x).size = ps.size) (I : List α → World → Prop) (hI : OwnFrom w.heap.size I) (hIb : ∀ s W v, I s W → I s (W.setCell ⟨bB, 0, none⟩ v)) (h0 : I [] w) (a₁ : α → Act)
  (hassign : ∀ (l : Nat) (x : α) (W : World) (K : Act → World → Prop), K (a₁ x) W →
   assign.wpIn (F.inRound l) (n - 1 - 1) P (Exit.then K (fun _ _ _ => False)) { tmps := (ps.zip (encs x)).foldl (fun t (p, v) => t.setIfInBounds p v) a.tmps, defers := [] } W)
  (hbody : ∀ (l : Nat) (pre : List α) (x : α) (W : World), I pre W → pre ++ [x] <+: xs → w.heap.size + 2 ≤ W.heap.size →
   body.wpIn (F.inRound l) (n - 1 - 1) P (fun e _ W' => e = .normal ∧ KeepsOthers W W' ∧ W'.heap[bB]? = W.heap[bB]? ∧ I (pre ++ [x]) W') (a₁ x) W)
  (hdone : ∀ (D : Nat) (W : World), w.heap.size ≤ D → I xs W → W.heap[D]? = some (.deferred (some [])) → Q .normal { a with defers := { target := .collected D, args := #[] } :: a.defers } W) :
  (Code.rangeFunc g ps assign body).wpIn F n P Q a w := by
 have hbl : bB < w.heap.size := (Array.getElem?_eq_some_iff.1 hob).1
 refine wpIn_rangeFunc ?_
 intro fn hfn
 rw [hro]
 obtain ⟨rec, hrec⟩ : ∃ rec : LoopState → Loop, rec = fun st => { state := st, pending := none, fn, tmps := a.tmps, params := ps, assign, body, defers := w.heap.size } := ⟨_, rfl⟩
 obtain ⟨W1, hW1⟩ : ∃ W1, (w.alloc (.deferred (some []))).alloc (.loop (rec .ready)) = W1 := ⟨_, rfl⟩
 have hL1 : W1.heap[w.heap.size + 1]? = some (.loop (rec .ready)) := by
  rw [← hW1]
  have := World.alloc_heap_new (w.alloc (.deferred (some []))) (.loop (rec .ready))
  rwa [World.size_alloc] at this
 have hK1 : W1.heap[w.heap.size]? = some (.deferred (some [])) := by
  rw [← hW1]; exact (Below.heap_alloc _ _ _ (by simp)).trans (World.alloc_heap_new w _)
 have hI1 : I [] W1 := by rw [← hW1]; exact hI.alloc _ (hI.alloc _ h0)
 have hO1 : W1.heap[bB]? = some ob := by
  rw [← hW1]; exact (Below.heap_alloc _ _ _ (by simp; omega)).trans ((Below.heap_alloc _ _ _ hbl).trans hob)
 refine ⟨w.heap.size + 1, [{ target := .collected w.heap.size, args := #[] }], W1, { target := .fn (.func gf) lb, args := #[.func (.yield (w.heap.size + 1)) #[] #[]] }, W1, gf,
  #[.func (.yield (w.heap.size + 1)) #[] #[]] ++ lb, W1, ?_, ?_, ?_, ?_, fun _ => h1, ?_⟩
 ·rw [← hW1, hrec]; exact run_enterLoop_outer _ _ _ _ _
 ·simp only [resolve, hg]
  simp [go_sem]
 ·intro f' hf'; simp [Target.leads] at hf'; subst hf'; exact hFg
 ·simp [invoke, go_sem, eg]
 ·refine (hseq (w.heap.size + 1)
   (fun pre W => I pre W ∧ W.heap[w.heap.size + 1]? = some (.loop (rec .ready)) ∧ W.heap[w.heap.size]? = some (.deferred (some [])))
   W1 ?_ ?_ ?_ hO1 ⟨hI1, hL1, hK1⟩).mono ?_
  ·rintro s W v ⟨hi, hl, hk⟩
   exact ⟨hIb s W v hi, (box_other v (by omega)).trans hl, (box_other v (by omega)).trans hk⟩
  ·rintro s W ⟨_, hl, _⟩
   have := (Array.getElem?_eq_some_iff.1 hl).1
   omega
  ·rintro pre x W ⟨hi, hl, hk⟩ hpre
   have hlt : w.heap.size + 1 < W.heap.size := (Array.getElem?_eq_some_iff.1 hl).1
   have hy := run_yield (P := P) (args := encs x) hl (by rw [hrec]; exact hps x)
   rw [hrec] at hy
   refine ⟨fn, _, assign, body, hy, roundIn_of_wpIn hfn (hassign _ x W _ ⟨_, run_beginRound hl (by rw [hrec]), ?_⟩)⟩
   have hl2 : (W.putObj (w.heap.size + 1) (.loop { rec .ready with state := .busy })).heap[w.heap.size + 1]? = some (.loop { rec .ready with state := .busy }) := World.putObj_heap_same hlt
   have hk2 : (W.putObj (w.heap.size + 1) (.loop { rec .ready with state := .busy })).heap[w.heap.size]? = some (.deferred (some [])) := (World.putObj_heap_other (by omega)).trans hk
   have hsz : w.heap.size + 2 ≤ (W.putObj (w.heap.size + 1) (.loop { rec .ready with state := .busy })).heap.size := by
    have := (Array.getElem?_eq_some_iff.1 hl2).1; omega
   refine wpIn_mono (hbody _ pre x _ (hI.putObj _ hi (by omega) hl rfl) hpre hsz) ?_
   rintro e a3 W3 ⟨rfl, hk3, hb3, hi3⟩
   have hl3 := hk3.same _ _ hl2 rfl
   have hr := run_endRound (P := P) none hl3
   rw [hrec] at hr
   rw [hrec] at hl3
   refine ⟨_, _, hr, rfl, ⟨hI.putObj _ hi3 (by omega) hl3 rfl, ?_, ?_⟩, ?_⟩
   ·rw [hrec]; exact World.putObj_heap_same (Array.getElem?_eq_some_iff.1 hl3).1
   ·exact (World.putObj_heap_other (by omega)).trans (hk3.same _ _ hk2 rfl)
   ·exact (World.putObj_heap_other (by omega)).trans (hb3.trans (World.putObj_heap_other (by omega)))
  ·rintro e W2 ⟨⟨v, rfl⟩, hi, hl, hk⟩
   exact ⟨none, _, by have := run_endLoop (P := P) hl (by rw [hrec]; simp); rw [hrec] at this; exact this, hdone _ _ (Nat.le_refl _) (hI.putObj _ hi (by omega) hl rfl) ((World.putObj_heap_other (by omega)).trans hk)⟩
variable {P : Program}
theorem opIn_round {n l : Nat} {o : Oper} {a : Act} {w : World} {K : Act → World → Prop} {Q : Exit → Act → World → Prop} (hd : ∀ c, o.op ≠ .defer c) (h : o.wp P a w K Q) : o.wpIn (Fence.wide.inRound l) n P a w K Q := by
 refine ⟨fun _ _ => trivial, ?_⟩
 unfold Oper.wp at h
 rw [Fence.inRound_round, Oper.semAt_some l _ _ hd]
 generalize (execOp a.eval o).run P w = r at h
 cases r with
 | ok x w' =>
  cases x with
  | value v => exact h
  | skip => exact h
  | defer d => exact h
  | enter f args => exact ⟨(fun hh => by cases hh), CallsIn.inRound l (callsIn_wide.2 h)⟩
  | row row args => 
   refine ⟨(fun hh => by cases hh), fun c cs _ => ?_⟩
   obtain ⟨v, w2, hR, hs⟩ := h c cs
   exact ⟨v, w2, hR, stepsIn_wide.2 hs⟩
  | _ => exact h.elim
 | halt x w' => cases x <;> first | exact h | exact h.elim
theorem anyIn_round {n l : Nat} {md : Region.Mode} {ops : Array Oper} {Q : Exit → Act → World → Prop} (hd : ∀ (i : Nat) (o : Oper), ops[i]? = some o → ∀ c, o.op ≠ .defer c) (hQ : ¬ LetsOut Q) :
  ∀ (fuel : Nat) (listed : Array Bool) (a : Act) (w : World), wpAny P md ops Q fuel listed a w → wpAnyIn (Fence.wide.inRound l) n P md ops Q fuel listed a w := by
 intro fuel
 induction fuel with
 | zero => intro listed a w h; exact h
 | succ fuel ih =>
  intro listed a w h
  refine ⟨h.1, fun i hi => ?_⟩
  have h2 := h.2 i hi
  unfold wpOp at h2
  unfold wpOpIn
  cases ho : ops[i]? with
  | none => rw [ho] at h2; exact ih _ _ _ h2
  | some o =>
   rw [ho] at h2
   simp only at h2 ⊢
   by_cases hw : Region.wanted o (yielded ops a.tmps) = true
   ·rw [if_pos hw] at h2 ⊢
    rcases h2 with h2 | h2
    ·exact Oper.wpIn_mono (fun a w h => ih _ _ _ h) (opIn_round (hd i o ho) h2)
    ·exact absurd h2.2 hQ
   ·rw [if_neg hw] at h2 ⊢
    exact ⟨fun _ _ => trivial, ih _ _ _ h2⟩
def noDefer (ops : Array Oper) : Bool := ops.all fun o => match o.op with | .defer _ => false | _ => true
theorem noDefer_spec {ops : Array Oper} (h : noDefer ops = true) (i : Nat) (o : Oper) (ho : ops[i]? = some o) (c) : o.op ≠ .defer c := by
 intro heq
 have := Array.all_eq_true_iff_forall_mem.1 h o (Array.mem_of_getElem? ho)
 simp [heq] at this
theorem region_round {n l id : Nat} {ops : Array Oper} {Q : Exit → Act → World → Prop} {a : Act} {w : World} (hm : P.follows .mixedOrders = true) (hd : ∀ (i : Nat) (o : Oper), ops[i]? = some o → ∀ c, o.op ≠ .defer c) (hQ : ¬ LetsOut Q)
  (h : wpAny P .any ops Q ops.size (Array.replicate ops.size false) a w.drew) : (Code.region id ops true).wpIn (Fence.wide.inRound l) n P Q a w :=
 wpIn_region_any hm (anyIn_round hd hQ _ _ _ _ h)
/-- an operation by its place: what is written there, with nothing left to reckon -/
theorem at_ {ops : Array Oper} {i : Nat} {o : Oper} {tl : List Oper} (h : ops.toList.drop i = o :: tl) : ops[i]? = some o := by
 rw [← Array.getElem?_toList]
 have h2 : (ops.toList.drop i)[0]? = some o := by rw [h]; rfl
 rw [List.getElem?_drop] at h2
 simpa using h2
section
variable {md : Region.Mode} {ops : Array Oper} {Q : Exit → Act → World → Prop} {S : World → Prop} {last : Nat}
def wpLast (P : Program) (md : Region.Mode) (ops : Array Oper) (Q : Exit → Act → World → Prop) (S : World → Prop) (last : Nat) : Nat → Array Bool → Act → World → Prop
 | 0, seen, a, w => Region.ready md ops seen = [] ∧ Q .normal a w
 | f + 1, seen, a, w => (Region.ready md ops seen = [] → Q .normal a w) ∧
  ∀ i ∈ Region.ready md ops seen, wpOp P ops Q i (fun a' w' => (i = last ∨ S w') ∧ wpLast P md ops Q S last f (seen.setIfInBounds i true) a' w') a w
theorem wpLast_any : ∀ (f : Nat) (seen : Array Bool) (a : Act) (w : World), wpLast P md ops Q S last f seen a w → wpAny P md ops Q f seen a w
 | 0, _, _, _, h => h
 | f + 1, _, _, _, h => ⟨h.1, fun i hi => wpOp_mono (fun a' w' h' => wpLast_any f _ a' w' h'.2) (h.2 i hi)⟩
/-- the last one waits for number i -/
def lastWaits (md : Region.Mode) (ops : Array Oper) (last i : Nat) : Bool := i != last && (ops[last]?).any fun o => o.after.any fun e => Region.binds md e && e.on == i
theorem lastWaits_not {i : Nat} {seen : Array Bool} (h : lastWaits md ops last i = true) (hs : seen.getD i true = false) (hr : last ∈ Region.ready md ops seen) : False := by
 obtain ⟨_, o, ho, hall⟩ := mem_ready.1 hr
 unfold lastWaits at h
 rw [ho] at h
 simp only [Option.any_some, Bool.and_eq_true, Array.any_eq_true, beq_iff_eq] at h
 obtain ⟨_, k, hk, hb, he⟩ := h
 have h2 := hall _ (Array.getElem_mem hk) hb
 rw [he] at h2
 rcases Nat.lt_or_ge i seen.size with h' | h'
 ·simp [h'] at hs h2; rw [hs] at h2; cases h2
 ·simp [Array.getElem?_eq_none h'] at h2
theorem wpLast_first {i : Nat} {oi : Oper} {v : Value} (hi : ops[i]? = some oi) (hsel : ∀ (j : Nat) (o : Oper) cs b, ops[j]? = some o → o.op ≠ .select cs b)
  (hQ : ∀ c a w, Q (.panic c) (a.put oi.dst v) w → Q (.panic c) a w) (hl : lastWaits md ops last i = true) :
  ∀ (f : Nat) (seen : Array Bool) (a : Act) (w : World),
   (∀ j oj, ops[j]? = some oj → j ≠ i → seen.getD j true = false → (∀ e ∈ oj.after, Region.binds md e = true → e.on ≠ i) → oi.apart ops oj = true) →
   i ∈ Region.ready md ops seen → YieldsIf P ops S oi v a → S w →
   wpLast P md ops Q S last f (seen.setIfInBounds i true) (a.put oi.dst v) w → wpLast P md ops Q S last (f + 1) seen a w
 | 0, seen, a, w, _, hr, hy, hS, H => by
  refine ⟨fun h => (by rw [h] at hr; cases hr), fun j hj => ?_⟩
  by_cases hji : j = i
  ·subst hji; exact hy.wpOp hi hS ⟨.inr hS, H⟩
  ·have := ready_mono hj hji
   rw [H.1] at this
   cases this
 | f + 1, seen, a, w, hfree, hr, hy, hS, H => by
  refine ⟨fun h => (by rw [h] at hr; cases hr), fun j hj => ?_⟩
  by_cases hji : j = i
  ·subst hji; exact hy.wpOp hi hS ⟨.inr hS, H⟩
  ·have hun := (mem_ready.1 hr).1
   have hjl : j ≠ last := fun e => lastWaits_not hl hun (e ▸ hj)
   obtain ⟨hjun, oj, hoj, hall⟩ := mem_ready.1 hj
   have hno : ∀ e ∈ oj.after, Region.binds md e = true → e.on ≠ i := by
    intro e he hb heq
    have h1 := hall e he hb
    rw [heq] at h1
    rcases Nat.lt_or_ge i seen.size with h' | h'
    ·simp [h'] at hun h1; rw [hun] at h1; cases h1
    ·simp [Array.getElem?_eq_none h'] at h1
   have h2 := wpOp_putIf hoj (hfree j oj hoj hji hjun hno) (fun cs b => hsel i oi cs b hi) (fun cs b => hsel j oj cs b hoj) hQ hy (H.2 j (ready_mono hj hji))
   refine wpOp_mono (fun a' w' h3 => ?_) h2
   obtain ⟨hy', hS', h4⟩ := h3
   have hSw := hS'.resolve_left hjl
   refine ⟨.inr hSw, wpLast_first hi hsel hQ hl f (seen.setIfInBounds j true) a' w' (fun k ok hk hki hku hkn => ?_) (ready_mono hr (Ne.symm hji)) hy' hSw ?_⟩
   ·refine hfree k ok hk hki ?_ hkn
    by_cases hjk : j = k
    ·exact hjk ▸ hjun
    ·rwa [getD_set_ne true hjk] at hku
   ·rw [Array.setIfInBounds_comm _ _ hji]
    exact h4
theorem wpLast_take {i : Nat} {oi : Oper} {v : Value} {f : Nat} {seen : Array Bool} {a : Act} {w : World} (hi : ops[i]? = some oi) (hs : Region.noSelect ops = true) (hf : Region.free md ops seen i = true)
  (hr : (Region.ready md ops seen).contains i = true) (hl : lastWaits md ops last i = true) (hQ : ∀ c a w, Q (.panic c) (a.put oi.dst v) w → Q (.panic c) a w) (hy : YieldsIf P ops S oi v a) (hS : S w)
  (h : wpLast P md ops Q S last f (seen.setIfInBounds i true) (a.put oi.dst v) w) : wpLast P md ops Q S last (f + 1) seen a w :=
 wpLast_first hi (Region.noSelect_spec hs) hQ hl f seen a w (Region.free_spec hi hf) (by simpa using hr) hy hS h
/-- one of those that may come up, and the rest of them -/
def eachLast (P : Program) (md : Region.Mode) (ops : Array Oper) (Q : Exit → Act → World → Prop) (S : World → Prop) (last f : Nat) (seen : Array Bool) (a : Act) (w : World) (rs : List Nat) : Prop :=
 ∀ i ∈ rs, wpOp P ops Q i (fun a' w' => (i = last ∨ S w') ∧ wpLast P md ops Q S last f (seen.setIfInBounds i true) a' w') a w
theorem eachLast_nil {f : Nat} {seen : Array Bool} {a : Act} {w : World} : eachLast P md ops Q S last f seen a w [] := fun _ h => by cases h
theorem eachLast_cons {f : Nat} {seen : Array Bool} {a : Act} {w : World} {i : Nat} {o : Oper} {rs : List Nat} (ho : ops[i]? = some o)
  (h : ∀ K' : Act → World → Prop, Shut (∀ a w, (i = last ∨ S w) → wpLast P md ops Q S last f (seen.setIfInBounds i true) a w → K' a w) → if Region.wanted o (yielded ops a.tmps) = true then Oper.wp P o a w K' Q else K' (a.put o.dst undef) w)
  (hs : eachLast P md ops Q S last f seen a w rs) : eachLast P md ops Q S last f seen a w (i :: rs) := fun j hj => by
 rcases List.mem_cons.1 hj with rfl | hj
 ·exact wpOp_step ho (fun K' hK => h K' (fun a w hS hW => hK a w ⟨hS, hW⟩))
 ·exact hs j hj
theorem wpLast_ready {rs : List Nat} {f : Nat} {seen : Array Bool} {a : Act} {w : World} (hr : Region.ready md ops seen = rs) (hne : rs ≠ []) (h : eachLast P md ops Q S last f seen a w rs) : wpLast P md ops Q S last (f + 1) seen a w :=
 ⟨fun h0 => absurd (hr ▸ h0) hne, hr ▸ h⟩
theorem wpLast_done {seen : Array Bool} {a : Act} {w : World} (hr : Region.ready md ops seen = []) (h : Q .normal a w) : ∀ f, wpLast P md ops Q S last f seen a w
 | 0 => ⟨hr, h⟩
 | _ + 1 => ⟨fun _ => h, by rw [hr]; simp⟩
end
theorem region_round_last {n l id : Nat} {ops : Array Oper} {Q : Exit → Act → World → Prop} {a : Act} {w : World} (S : World → Prop) (last : Nat) (hm : P.follows .mixedOrders = true) (hd : ∀ (i : Nat) (o : Oper), ops[i]? = some o → ∀ c, o.op ≠ .defer c) (hQ : ¬ LetsOut Q)
  (hS : S w.drew) (h : ∀ wd : World, wd.heap.size = w.heap.size → Below w.heap.size w wd → S wd → wpLast P .any ops Q S last ops.size (Array.replicate ops.size false) a wd) : (Code.region id ops true).wpIn (Fence.wide.inRound l) n P Q a w :=
 region_round hm hd hQ (wpLast_any _ _ _ _ (h _ rfl ⟨rfl, rfl, rfl, Nat.le_refl _, fun _ _ => rfl⟩ hS))
/-- the same, in no round and no fence -/
theorem region_last {id : Nat} {ops : Array Oper} {Q : Exit → Act → World → Prop} {a : Act} {w : World} (S : World → Prop) (last : Nat) (hm : P.follows .mixedOrders = true)
  (hS : S w.drew) (h : ∀ wd : World, wd.heap.size = w.heap.size → Below w.heap.size w wd → S wd → wpLast P .any ops Q S last ops.size (Array.replicate ops.size false) a wd) : (Code.region id ops true).wp P Q a w :=
 wp_region_any hm (wpLast_any _ _ _ _ (h _ rfl ⟨rfl, rfl, rfl, Nat.le_refl _, fun _ _ => rfl⟩ hS))
open Go.RowKit Go.Proofs.YtcdpkdehogcjnaaGreatW.PrintWords Go.Proofs.YtcdpkdehogcjnaaGreatW.PrintLast Go.Proofs.YtcdpkdehogcjnaaGreatW.PrintMore
def wordL (n : Int) : List Int := [n / 256 % 256, n % 256]
def longL (n : Int) : List Int := [n / 72057594037927936 % 256, n / 281474976710656 % 256, n / 1099511627776 % 256, n / 4294967296 % 256, n / 16777216 % 256, n / 65536 % 256, n / 256 % 256, n % 256]
def headB (a b c d : Int) : List Int := wordL a ++ wordL b ++ wordL c ++ List.replicate 18 0 ++ longL d
theorem long_f (d : Int) : disk_long.f 9 d = some (longL d) := by
 simp [disk_long.f, disk_long.l0, longL, wrap64, shr, IntKind.bits]
theorem mono_to {α : Type} {f : Nat → Option α} (hm : ∀ k, LeO (f k) (f (k + 1))) {r : α} {k : Nat} (h : f k = some r) : ∀ j, k ≤ j → f j = some r := by
 intro j hj
 obtain ⟨d, rfl⟩ : ∃ d, j = k + d := ⟨j - k, by omega⟩
 clear hj
 induction d with
 | zero => exact h
 | succ d ih => exact hm _ _ ih
theorem head_f (a b c d : Int) : disk_headOf.f 9 a b c d = some (headB a b c d ++ headB a b c d) := by
 simp [disk_headOf.f, disk_word.f, long_f, slices_Concat_byte_byte.f, headB, wordL, longL]
def formatL (n : Int) : List Int := headB 0 0 0 1 ++ headB 0 0 0 1 ++ List.replicate (n.toNat * 64 - 64) 0
def disk_Format.f (a0 : Int) : Option (List Int × Int) := some (if 8 ≤ a0 ∧ a0 ≤ 256 then (formatL a0, 0) else ([], 1))
theorem blocks_f (a0 : Int) : disk_blocksAre.f a0 = some (decide (8 ≤ a0 ∧ a0 ≤ 256)) := by
 unfold disk_blocksAre.f
 by_cases h : 8 ≤ a0 <;> simp [h]
theorem disk_Format.calls (a0 : Int) (r1 : List Int) (r2 : Int) (w : World) (h : disk_Format.f a0 = some (r1, r2)) :
  Calls Tryz.prog 18 #[.int .i64 a0] w fun e w' => ∃ v0_ : Value, e = .returned (.tuple #[v0_, .int .i64 r2]) ∧ Kd.R (Kd.int .u8) 5 w' w.heap.size (fun _ => True) v0_ r1 ∧ Below w.heap.size w w' := by
 unfold disk_Format.f at h
 replace h := Option.some.inj h
 go_enter Tryz.func18, Tryz.ntmps18
 by_cases hb : 8 ≤ a0 ∧ a0 ≤ 256
 ·rw [if_pos hb] at h
  obtain ⟨rfl, rfl⟩ := Prod.mk.inj h
  obtain ⟨n, rfl⟩ := Int.eq_ofNat_of_zero_le (show 0 ≤ a0 by omega)
  have hbf : decide (8 ≤ (n : Int) ∧ (n : Int) ≤ 256) = true := decide_eq_true hb
  have h8 : 8 ≤ n := by omega
  have h256 : n ≤ 256 := by omega
  have HF := Aside0.mk (blocks_f (n : Int))
  clear h hb
  go_wp2_with fail
  refine (disk_blocksAre.calls _ _ _ HF.out).mono ?_
  rintro e w' ⟨rfl, ⟨nd, rfl⟩⟩
  rw [hbf]
  go_wp2_with ((with_reducible refine gate_dst (N := 10) rfl ?_); refine Kd.R_make (Kd.int .u8) (w0 := w) w.heap.size 5 rfl (N := 10) rfl 22 (.tmp 9) (.tmp 9) rfl ((n : Int) * 64) rfl rfl Tryz.underlying22 (.int .u8 0) 1 info5 rfl (by decide) (by decide) 0 (ok := fun _ => True) (okp := fun _ => True) rfl (fun _ hk => hk) trivial (by omega) (by omega) (pw_below_drewN (Below.refl _ _) _) (Nat.le_refl _) ?_)
  intro v1 w1 hR hB _ _ _ _
  obtain ⟨zs, hzs⟩ : ∃ zs, zs = List.replicate ((n : Int) * 64).toNat (0 : Int) := ⟨_, rfl⟩
  rw [← hzs] at hR
  obtain ⟨A1, c1, rfl⟩ := Kd.R_slice hR
  have hzl : zs.length = n * 64 := by rw [hzs]; simp; omega
  have HR1 := Aside0.mk hR
  have HB1 := Aside0.mk hB
  have HZ := Aside0.mk hzs
  have HZL := Aside0.mk hzl
  clear hR hB hzs hzl
  obtain ⟨hl, hhl⟩ : ∃ hl, hl = headB 0 0 0 1 ++ headB 0 0 0 1 := ⟨_, rfl⟩
  have hll : hl.length = 64 := by rw [hhl]; simp [headB, wordL, longL]
  have HH : Aside0 (disk_headOf.f 9 0 0 0 1 = some hl) := ⟨by rw [hhl]; exact head_f 0 0 0 1⟩
  have HHL := Aside0.mk hhl
  have HLL := Aside0.mk hll
  clear hhl hll
  go_wp2_with fail
  refine (disk_headOf.calls _ _ _ _ _ _ _ HH.out).mono ?_
  rintro e w2 ⟨v2, rfl, hR2, hB2⟩
  obtain ⟨A2, c2, rfl, hl2, hC2⟩ := Kd.R_reads hR2
  have HR3 : Aside0 (Kd.R (Kd.int .u8) 5 w2 w.heap.size (fun _ => True) (.slice A1 zs.length c1) zs) := ⟨Kd.R_below HR1.out hB2⟩
  have HB3 : Aside0 (Below w.heap.size w w2) := ⟨HB1.out.trans (hB2.mono HB1.out.size)⟩
  have HC2 := Aside0.mk hC2
  clear hR2 hB2 hC2 HR1 HB1 HH
  go_wp2_with ((with_reducible refine gate_builtin (b := .copy) (xs := #[.tmp 11, .tmp 12]) rfl ?_); refine Kd.R_copy (enc := Value.int .u8) (h1 := fun _ => rfl) (0 : Int) (w0 := w) w.heap.size rfl (.tmp 11) (.tmp 12) 22 22 5 rfl Tryz.underlying22 (by kernel_rfl) _ zs hl A2 hl.length c2 (fun _ => True) rfl rfl HR3.out HC2.out HB3.out HB3.out.size ?_)
  intro w4 hR4 hB4 _
  have HR4 := Aside0.mk hR4
  have HB4 := Aside0.mk hB4
  clear hR4 hB4
  go_wp2_with fail
  go_returns
  refine ⟨_, rfl, ?_, HB4.out⟩
  have h := HR4.out
  rw [HLL.out, HZL.out, show min 64 (n * 64) = 64 by omega, List.take_of_length_le (by rw [HLL.out]; omega), HHL.out, HZ.out, List.drop_replicate, show ((n : Int) * 64).toNat - 64 = n * 64 - 64 by omega] at h
  rw [HZL.out]
  unfold formatL
  rw [Int.toNat_natCast]
  exact h
 ·rw [if_neg hb] at h
  obtain ⟨rfl, rfl⟩ := Prod.mk.inj h
  have hbf : decide (8 ≤ a0 ∧ a0 ≤ 256) = false := decide_eq_false hb
  have HF := Aside0.mk (blocks_f a0)
  clear h hb
  go_wp2_with fail
  refine (disk_blocksAre.calls _ _ _ HF.out).mono ?_
  rintro e w' ⟨rfl, ⟨nd, rfl⟩⟩
  rw [hbf]
  go_wp2_with fail
  go_returns
  exact ⟨_, rfl, Kd.R_nil _ _ _ _ _, pw_below_drewN (Below.refl _ _) _⟩
/-- bytes behind a write -/
def putF (xs : List Int) (p : S42) : List Int := xs.take (p.f0.toNat * 64) ++ (p.f1 ++ xs.drop (p.f0.toNat * 64 + p.f1.length))
def doneF (xs : List Int) (ps : List S42) : List Int := ps.foldl putF xs
/-- a write that fits -/
def PutOk (n : Nat) (p : S42) : Prop := 0 ≤ p.f0 ∧ (p.f0.toNat + 1) * 64 ≤ n ∧ p.f1.length ≤ 64
theorem putF_len {xs : List Int} {p : S42} (h : PutOk xs.length p) : (putF xs p).length = xs.length := by
 obtain ⟨h0, h1, h2⟩ := h
 unfold putF
 simp
 omega
theorem doneF_len : ∀ (ps : List S42) (xs : List Int), (∀ p ∈ ps, PutOk xs.length p) → (doneF xs ps).length = xs.length
 | [], _, _ => rfl
 | p :: ps, xs, h => by
  have h1 := putF_len (h p (by simp))
  have h2 := doneF_len ps (putF xs p) (fun q hq => by rw [h1]; exact h q (by simp [hq]))
  show (doneF (putF xs p) ps).length = _
  rw [h2, h1]
theorem doneF_step {xs : List Int} {ps : List S42} {i : Nat} {p : S42} (h : ps[i]? = some p) : doneF xs (ps.take (i + 1)) = putF (doneF xs (ps.take i)) p := by
 unfold doneF
 rw [List.take_add_one, h]
 simp [List.foldl_append]
/-- a row of one's own: its block, and what is laid into it -/
theorem row_of {W : World} {base g n cap : Nat} {ok : Nat → Prop} {xs : List Int} (h : Kd.R (Kd.int .u8) 5 W base ok (.slice (some ⟨g, 0, none⟩) n cap) xs) :
  ∃ cur : List Value, W.heap[g]? = some (.cells cur.toArray 5 (0, 0)) ∧ n ≤ cur.length ∧ base ≤ g ∧
   ∀ (W1 : World) (off : Nat) (ys : List Int), off + ys.length ≤ n → W1.heap[g]? = some (.cells (splice cur off (ys.map (Value.int .u8))).toArray 5 (0, 0)) →
    Kd.R (Kd.int .u8) 5 W1 base ok (.slice (some ⟨g, 0, none⟩) n cap) (xs.take off ++ (ys ++ xs.drop (off + ys.length))) := by
 have hn : n = xs.length := (Kd.R_reads' h).1
 have hown := Kd.own_of_R h
 obtain ⟨hl, hd⟩ := hown
 rcases hd with ⟨hv, _⟩ | ⟨g', cap', cur, hv, hb, hg, hnc, hcm, hcs, ht⟩
 ·cases hv
 injection hv with e1 e2 e3
 injection e1 with e1
 injection e1 with e1
 subst e1; subst e3
 rw [Nat.mul_one] at hcs ht
 refine ⟨cur.toList, by simpa using hg, by simp; omega, hb, fun W1 off ys ho hW => ?_⟩
 have hlen : (xs.take off ++ (ys ++ xs.drop (off + ys.length))).length = n := by simp; omega
 have hsl := length_splice cur.toList off (ys.map (Value.int .u8)) (by simp; omega)
 refine Kd.R_of_own (enc := Value.int .u8) ⟨by rw [encs_length, Nat.mul_one], .inr ⟨g, cap, _, by rw [hlen], hb, hW, by rw [hlen]; omega, hcm, by simp [hsl, hcs], ?_⟩⟩ h.1
 rw [hlen, Nat.mul_one]
 show (splice cur.toList off (ys.map (Value.int .u8))).take n = _
 have e : encs (Value.int .u8) xs = cur.toList.take n := by rw [hn]; exact ht.symm
 unfold encs at e ⊢
 rw [List.map_append, List.map_append, List.map_take, List.map_drop, e]
 unfold splice
 rw [List.length_map, List.take_take, List.drop_take, show min off n = off by omega]
 rw [List.take_append, List.take_append, List.length_map, List.length_take]
 rw [List.take_take, show min n off = off by omega]
 have hcl : cur.toList.length = cap := by simpa using hcs
 rw [show min off cur.toList.length = off by omega, List.take_of_length_le (l := ys.map (Value.int .u8)) (by simp; omega)]
 rw [show n - off - ys.length = n - (off + ys.length) by omega]
theorem put_at {W : World} {A : Option Addr} {l : List S42} (h : Kd.C k42 W A l.length l) (i : Nat) (hi : i < l.length) :
  ∃ ad A1 c1 x, A = some ad ∧ l[i]? = some x ∧ W.cell? (ad.add (i * 2)) = some (.int .i64 x.f0) ∧ W.cell? ⟨(ad.add (i * 2)).block, (ad.add (i * 2)).off + 1, none⟩ = some (.slice A1 x.f1.length c1) ∧
   x.f1.length ≤ c1 ∧ Kd.C (Kd.int .u8) W A1 x.f1.length x.f1 := by
 obtain ⟨ad, A1, c1, e, h0, h1, hl, hC⟩ := at_T42 h (i : Int) (by omega) (by omega)
 have hx : l[i]? = some (rd_T42 l (i : Int)) := by
  rw [List.getElem?_eq_getElem hi]
  unfold rd_T42
  simp [List.getD_eq_getElem?_getD, List.getElem?_eq_getElem hi]
 exact ⟨ad, A1, c1, _, e, hx, h0, h1, hl, hC⟩
theorem src_of {W : World} {A : Option Addr} {n : Nat} {xs : List Int} (h : Kd.C (Kd.int .u8) W A n xs) : 0 < (xs.map (Value.int .u8)).length → ∃ ad, A = some ad ∧ ∀ j v, (xs.map (Value.int .u8))[j]? = some v → W.cell? (ad.add j) = some v := by
 intro hp
 rw [List.length_map] at hp
 have hl : xs.length = n := Kd.C_len h
 obtain ⟨ad, e, hc⟩ := (Kd.reads_of_C (d := (0 : Int)) (h1 := fun _ => rfl) h).2.2 (by omega)
 refine ⟨ad, e, fun j v hj => ?_⟩
 rw [List.getElem?_map] at hj
 obtain ⟨x, hx, rfl⟩ := Option.map_eq_some_iff.1 hj
 obtain ⟨hlt, hxj⟩ := List.getElem?_eq_some_iff.1 hx
 rw [hc j (by omega), List.getD_eq_getElem?_getD, hx]
 rfl
theorem done_any (A : Option Addr) (c : Nat) (xs : List Int) (A1 : Option Addr) (c1 : Nat) (ps : List S42) (w : World) (hr : Kd.C (Kd.int .u8) w A xs.length xs) (hc : xs.length ≤ c)
  (hr1 : Kd.C k42 w A1 ps.length ps) (hc1 : ps.length ≤ c1) (hx : xs.length ≤ 70368744177664) (hpos : 0 < xs.length) (hok : ∀ p ∈ ps, PutOk xs.length p) :
  Calls Tryz.prog 39 #[.slice A xs.length c, .slice A1 ps.length c1] w fun e w' => ∃ v, e = .returned v ∧ FreshB w w' v (doneF xs ps) := by
 have hmx := Kd.C_max hr1
 have HR := Aside0.mk hr
 have HR1 := Aside0.mk hr1
 have HOK := Aside0.mk hok
 clear hr hr1 hok
 go_enter Tryz.func39, Tryz.ntmps39
 go_wp2_with fail
 refine (clone_any A c xs w HR.out hc hx).mono ?_
 rintro e w1 ⟨v1, rfl, hF, hB⟩
 obtain ⟨g, cap, rfl, hg1, hg2, _⟩ := Kd.R_form hF hpos
 have HF := Aside0.mk hF
 have HB := Aside0.mk hB
 clear hF hB
 go_wp2_with fail
 go_loopw [12] (fun k wr => ∃ i : Nat, k = .int .i64 i ∧ i ≤ ps.length ∧ Aside0 (Below w.heap.size w wr) ∧ Aside0 (Kd.R (Kd.int .u8) 5 wr w.heap.size (fun _ => True) (.slice (some ⟨g, 0, none⟩) xs.length cap) (doneF xs (ps.take i)))) (fun k _ => ps.length - (intOf k).toNat)
 case atStart => exact ⟨0, rfl, by omega, HB, ⟨by simpa [doneF] using HF.out⟩⟩
 case round =>
  obtain ⟨i, rfl, hi, HB1, HR2⟩ := hrel
  by_cases hlt : i < ps.length
  ·have hd : decide (i < ps.length) = true := decide_eq_true hlt
   obtain ⟨ad, A2, c2, x, rfl, hx, h0, h1, hc2, hC⟩ := put_at (Kd.C_below HR1.out HB1.out) i hlt
   have hpk := HOK.out x (List.mem_of_getElem? hx)
   obtain ⟨b, hb⟩ := Int.eq_ofNat_of_zero_le hpk.1
   rw [hb] at h0
   obtain ⟨cur, hcur, hncur, hgb, hput⟩ := row_of HR2.out
   have hnc : xs.length ≤ cap := by have := (Kd.R_reads' HR2.out).2.1; omega
   have hxm : xs.length ≤ maxLen := by unfold maxLen; omega
   have hib : (b + 1) * 64 ≤ xs.length := by have := hpk.2.1; rw [hb] at this; simpa using this
   have hx64 := hpk.2.2
   have hgw : (wr.alloc (.cells #[.int .i64 (b : Int), .slice A2 x.f1.length c2] 42)).drew.heap[g]? = some (.cells cur.toArray 5 (0, 0)) := (Below.heap_alloc _ _ _ (blk_lt hcur)).trans hcur
   have HBA : Aside0 (Below w.heap.size w (wr.alloc (.cells #[.int .i64 (b : Int), .slice A2 x.f1.length c2] 42)).drew) := ⟨pw_below_drewN (below_alloc HB1.out _) 1⟩
   have HSRC : Aside0 (0 < (x.f1.map (Value.int .u8)).length → ∃ ad, A2 = some ad ∧ ∀ j v, (x.f1.map (Value.int .u8))[j]? = some v → (wr.alloc (.cells #[.int .i64 (b : Int), .slice A2 x.f1.length c2] 42)).drew.cell? (ad.add j) = some v) := ⟨src_of (Kd.C_drew (Kd.C_alloc hC _))⟩
   have HN : Aside0 ((x.f1.map (Value.int .u8)).length = Nat.min x.f1.length 64) := ⟨by rw [List.length_map]; exact (Nat.min_eq_left hx64).symm⟩
   have HFIT : Aside0 (b * 64 + (x.f1.map (Value.int .u8)).length ≤ cur.length) := ⟨by rw [List.length_map]; omega⟩
   have HONE : Aside0 (∀ v ∈ x.f1.map (Value.int .u8), v.oneCell' = true) := ⟨fun v hv => by obtain ⟨y, _, rfl⟩ := List.mem_map.1 hv; rfl⟩
   have HGW := Aside0.mk hgw
   have HPUT := Aside0.mk hput
   have HX := Aside0.mk hx
   have HXB := Aside0.mk hb
   have HPK := Aside0.mk hpk
   have HC := Aside0.mk hC
   clear hx hb hpk hC hcur hgw hput
   go_wp2_with fail
   go_region_law (first
    | (go_simp; go_at_call 62; refine (block_any (some ⟨g, 0, none⟩) xs.length cap b _ hnc hxm hib).mono ?_; rintro e w3 ⟨rfl, rfl⟩)
    | (refine step_copy_splice rfl (.tmp 19) (.tmp 21) 22 22 rfl 5 Tryz.underlying22 (by kernel_rfl) _ _ _ _ _ _ rfl rfl g (b * 64) cur 5 ?hg (x.f1.map (Value.int .u8)) HN.out ?hp HFIT.out HONE.out w.heap.size w ?hb hgb ?_; (case hg => exact HGW.out); (case hp => exact fun hp => ⟨rfl, HSRC.out hp⟩); (case hb => exact HBA.out); intro w4 hg4 hb4; have HG4 := Aside0.mk hg4; have HB4 := Aside0.mk hb4; clear hg4 hb4))
   all_goals
    go_wp2_with fail
    go_roundw
    case measure => simp [intOf]; omega
    case rel =>
     refine ⟨i + 1, by go_num, by omega, HB4, ⟨?_⟩⟩
     rw [doneF_step HX.out, putF, HXB.out, Int.toNat_natCast]
     exact HPUT.out _ _ _ (by omega) HG4.out
  ·have hd : decide (i < ps.length) = false := decide_eq_false hlt
   go_wp2_with fail
   go_returns
   have h := HR2.out
   rw [List.take_of_length_le (by omega)] at h
   exact ⟨_, rfl, h, HB1.out⟩
/-- the error of writes -/
def putsR (n : Nat) : List S42 → Int
 | [] => 0
 | p :: l => if p.f0 < 0 then 1 else if p.f0 ≥ ((n / 64 : Nat) : Int) then 1 else if (p.f1.length : Int) < 1 then 1 else if (p.f1.length : Int) > 64 then 1 else putsR n l
def putsF (xs : List Int) (l : List S42) : Int := if sizeOk xs.length then putsR xs.length l else 200
theorem wrap_nat {m : Nat} (h : m < 9223372036854775808) : wrap64 (m : Int) = m := by unfold wrap64; omega
theorem sized_f (xs : List Int) (h : xs.length ≤ 9223372036854775807) : disk_sized.f xs = some (if sizeOk xs.length then 0 else 200) := by
 unfold disk_sized.f sizeOk
 have e : ((xs.length : Int) / 64) = ((xs.length / 64 : Nat) : Int) := by omega
 rw [e, wrap_nat (by omega)]
 by_cases h1 : xs.length % 64 = 0
 ·have h1' : ((xs.length : Int) % 64) = 0 := by omega
  rw [if_pos h1']
  by_cases h2 : xs.length / 64 < 8
  ·rw [if_pos (by omega)]; simp [h1]; omega
  ·rw [if_neg (by omega)]
   by_cases h3 : xs.length / 64 > 256
   ·rw [if_pos (by omega)]; simp [h1]; omega
   ·rw [if_neg (by omega)]; simp [h1]; omega
 ·rw [if_neg (by omega)]
  simp [h1]
theorem puts_l0 (xs : List Int) (l : List S42) (hx : xs.length ≤ 9223372036854775807) (hl : l.length ≤ 9223372036854775807) : ∀ (m i k : Nat), i + m = l.length → m < k → disk_puts.l0 k xs l (l.length : Int) (i : Int) = some (putsR xs.length (l.drop i)) := by
 intro m
 induction m with
 | zero =>
  intro i k hi hk
  obtain ⟨k, rfl⟩ : ∃ j, k = j + 1 := ⟨k - 1, by omega⟩
  rw [disk_puts.l0, if_neg (by omega), List.drop_of_length_le (by omega)]
  rfl
 | succ m ih =>
  intro i k hi hk
  obtain ⟨k, rfl⟩ : ∃ j, k = j + 1 := ⟨k - 1, by omega⟩
  have hlt : i < l.length := by omega
  have hrd : rd_T42 l (i : Int) = l[i] := by
   unfold rd_T42
   simp [List.getD_eq_getElem?_getD, List.getElem?_eq_getElem hlt]
  have e : ((xs.length : Int) / 64) = ((xs.length / 64 : Nat) : Int) := by omega
  have e2 : wrap64 ((i : Int) + 1) = ((i + 1 : Nat) : Int) := by unfold wrap64; omega
  rw [disk_puts.l0, if_pos (by omega), if_pos (by omega), if_pos (by omega), hrd, e, wrap_nat (by omega), e2, ih (i + 1) k (by omega) (by omega), List.drop_eq_getElem_cons hlt, putsR]
  repeat' split
  all_goals rfl
theorem puts_f (xs : List Int) (l : List S42) (hx : xs.length ≤ 9223372036854775807) (hl : l.length ≤ 9223372036854775807) : disk_puts.f (l.length + 1) xs l = some (putsF xs l) := by
 unfold disk_puts.f putsF
 rw [sized_f xs hx]
 cases h : sizeOk xs.length with
 | false => rfl
 | true =>
  show (if (0 : Int) = 0 then disk_puts.l0 (l.length + 1) xs l (l.length : Int) 0 else some 0) = _
  rw [if_pos rfl]
  exact puts_l0 xs l hx hl l.length 0 _ (by omega) (by omega)
theorem puts_ok {n : Nat} : ∀ {l : List S42}, putsR n l = 0 → ∀ p ∈ l, PutOk n p
 | [], _, p, hp => by simp at hp
 | q :: l, h, p, hp => by
  unfold putsR at h
  split at h; · cases h
  split at h; · cases h
  split at h; · cases h
  split at h; · cases h
  rcases List.mem_cons.1 hp with rfl | hp
  ·refine ⟨by omega, by omega, by omega⟩
  ·exact puts_ok h p hp
def disk_Do.f (l0 : List Int) (l1 : List S42) : Option (List Int × Int) := some (if putsF l0 l1 = 0 then (doneF l0 l1, 0) else ([], putsF l0 l1))
theorem size_pos {n : Nat} (h : sizeOk n = true) : 512 ≤ n ∧ n ≤ 16384 := by
 unfold sizeOk at h
 simp at h
 omega
theorem puts_zero {xs : List Int} {l : List S42} (h : putsF xs l = 0) : sizeOk xs.length = true ∧ ∀ p ∈ l, PutOk xs.length p := by
 unfold putsF at h
 cases hs : sizeOk xs.length with
 | false => rw [hs] at h; cases h
 | true => rw [hs] at h; exact ⟨rfl, puts_ok h⟩
theorem disk_Do.calls (A0 : Option Addr) (c0 : Nat) (l0 : List Int) (A1 : Option Addr) (c1 : Nat) (l1 : List S42) (r1 : List Int) (r2 : Int) (w : World) (hr0 : Kd.C (Kd.int .u8) w A0 l0.length l0) (hc0 : l0.length ≤ c0)
  (hr1 : Kd.C k42 w A1 l1.length l1) (hc1 : l1.length ≤ c1) (h : disk_Do.f l0 l1 = some (r1, r2)) :
  Calls Tryz.prog 14 #[.slice A0 l0.length c0, .slice A1 l1.length c1] w fun e w' => ∃ v0_ : Value, e = .returned (.tuple #[v0_, .int .i64 r2]) ∧ Kd.R (Kd.int .u8) 5 w' w.heap.size (fun _ => True) v0_ r1 ∧ Below w.heap.size w w' := by
 unfold disk_Do.f at h
 replace h := Option.some.inj h
 have HP := Aside0.mk (puts_f l0 l1 (Kd.C_max hr0) (Kd.C_max hr1))
 have HR0 := Aside0.mk hr0
 have HR1 := Aside0.mk hr1
 clear hr0 hr1
 obtain ⟨z, hz⟩ : ∃ z, z = putsF l0 l1 := ⟨_, rfl⟩
 rw [← hz] at h HP
 by_cases h0 : z = 0
 ·subst h0
  rw [if_pos rfl] at h
  obtain ⟨hs, hok⟩ := puts_zero hz.symm
  obtain ⟨s1, s2⟩ := size_pos hs
  obtain ⟨rfl, rfl⟩ := Prod.mk.inj h
  have HOK := Aside0.mk hok
  clear h hz hs hok
  go_enter Tryz.func14, Tryz.ntmps14
  go_wp2_with fail
  refine (disk_puts.calls _ _ _ l0 _ _ l1 _ _ HR0.out hc0 HR1.out hc1 HP.out).mono ?_
  rintro e w1 ⟨rfl, hB⟩
  have HB := Aside0.mk hB
  clear hB
  go_wp2_with fail
  refine (done_any A0 c0 l0 A1 c1 l1 w1 (Kd.C_below HR0.out HB.out) hc0 (Kd.C_below HR1.out HB.out) hc1 (by omega) (by omega) HOK.out).mono ?_
  rintro e w2 ⟨v2, rfl, hF, hB2⟩
  have HF := Aside0.mk hF
  have HB2 := Aside0.mk hB2
  clear hF hB2
  go_wp2_with fail
  go_returns
  exact ⟨_, rfl, Kd.R_lower HF.out HB.out.size, HB.out.trans (HB2.out.mono HB.out.size)⟩
 ·rw [if_neg h0] at h
  obtain ⟨rfl, rfl⟩ := Prod.mk.inj h
  have hz' : (z != 0) = true := bne_iff_ne.mpr h0
  have hz2 : (z == 0) = false := beq_eq_false_iff_ne.mpr h0
  clear h h0
  have HZ := Aside0.mk hz
  clear hz
  go_enter Tryz.func14, Tryz.ntmps14
  go_wp2_with fail
  refine (disk_puts.calls _ _ _ l0 _ _ l1 _ _ HR0.out hc0 HR1.out hc1 HP.out).mono ?_
  rintro e w1 ⟨rfl, hB⟩
  have HB := Aside0.mk hB
  clear hB
  go_wp2_with fail
  go_returns
  exact ⟨_, rfl, Kd.R_nil _ _ _ _ _, HB.out⟩
theorem one_put {W : World} {g : Nat} {x : S42} {A2 : Option Addr} {c2 : Nat} {t : TypeId} (hg : W.heap[g]? = some (.cells #[.int .i64 x.f0, .slice A2 x.f1.length c2] t (0, 0))) (hl : x.f1.length ≤ c2) (hC : Kd.C (Kd.int .u8) W A2 x.f1.length x.f1) :
  Kd.C k42 W (some ⟨g, 0, none⟩) 1 [x] := by
 refine ⟨rfl, by omega, fun _ => ⟨_, rfl, fun j p hp => ?_⟩⟩
 cases j with
 | succ j => simp at hp
 | zero =>
  simp at hp
  subst hp
  refine ⟨_, rfl, k42_mk W x hl hC, fun i u hu => ?_⟩
  have h0 := blk_cell hg 0
  have h1 := blk_cell hg 1
  simp at h0 h1
  match i with
  | 0 => simp at hu; subst hu; simpa [Addr.add] using h0
  | 1 => simp at hu; subst hu; simpa [Addr.add] using h1
  | i + 2 => simp at hu
/-- the part of the next write -/
def partOf (l : List S42) (whole part : Nat) : List S42 := match l[whole]? with | some p => [⟨p.f0, p.f1.take part⟩] | none => []
def powerOk (l : List S42) (whole part : Int) : Bool := decide (0 ≤ whole) && decide (whole ≤ l.length) && decide (0 ≤ part) && (decide (part = 0) || (match l[whole.toNat]? with | some p => decide (part ≤ p.f1.length) | none => false))
def disk_Torn.f (l0 : List Int) (l1 : List S42) (a2 a3 : Int) : Option (List Int × Int) :=
 some (if putsF l0 l1 = 0 then (if powerOk l1 a2 a3 = true then (if a3 = 0 then doneF l0 (l1.take a2.toNat) else doneF (doneF l0 (l1.take a2.toNat)) (partOf l1 a2.toNat a3.toNat), 0) else ([], 201)) else ([], putsF l0 l1))
theorem done_n (A : Option Addr) (n c : Nat) (xs : List Int) (A1 : Option Addr) (m c1 : Nat) (ps : List S42) (w : World) (hn : xs.length = n) (hm : ps.length = m) (hr : Kd.C (Kd.int .u8) w A xs.length xs) (hc : xs.length ≤ c)
  (hr1 : Kd.C k42 w A1 ps.length ps) (hc1 : ps.length ≤ c1) (hx : xs.length ≤ 70368744177664) (hpos : 0 < xs.length) (hok : ∀ p ∈ ps, PutOk xs.length p) :
  Calls Tryz.prog 39 #[.slice A n c, .slice A1 m c1] w fun e w' => ∃ v, e = .returned v ∧ FreshB w w' v (doneF xs ps) := by
 subst hn; subst hm; exact done_any A c xs A1 c1 ps w hr hc hr1 hc1 hx hpos hok
theorem torn_bad (A0 : Option Addr) (c0 : Nat) (l0 : List Int) (A1 : Option Addr) (c1 : Nat) (l1 : List S42) (a2 a3 : Int) (w : World) (hr0 : Kd.C (Kd.int .u8) w A0 l0.length l0) (hc0 : l0.length ≤ c0)
  (hr1 : Kd.C k42 w A1 l1.length l1) (hc1 : l1.length ≤ c1) (hz : putsF l0 l1 = 0) (hp : powerOk l1 a2 a3 = false) :
  Calls Tryz.prog 16 #[.slice A0 l0.length c0, .slice A1 l1.length c1, .int .i64 a2, .int .i64 a3] w fun e w' => e = .returned (.tuple #[.slice none 0 0, .int .i64 201]) ∧ Below w.heap.size w w' := by
 have HP := Aside0.mk (puts_f l0 l1 (Kd.C_max hr0) (Kd.C_max hr1))
 rw [hz] at HP
 have hmx := Kd.C_max hr1
 have HR0 := Aside0.mk hr0
 have HR1 := Aside0.mk hr1
 clear hr0 hr1 hz
 go_enter Tryz.func16, Tryz.ntmps16
 have HPO := Aside0.mk hp
 clear hp
 go_wp2_with fail
 refine (disk_puts.calls _ _ _ l0 _ _ l1 _ _ HR0.out hc0 HR1.out hc1 HP.out).mono ?_
 rintro e w1 ⟨rfl, hB⟩
 have HB := Aside0.mk hB
 clear hB
 by_cases h1 : a2 < 0
 ·have d1 : decide (a2 < 0) = true := decide_eq_true h1
  clear h1
  go_wp2_with fail
  go_returns
  exact ⟨rfl, HB.out⟩
 ·have d1 : decide (a2 < 0) = false := decide_eq_false h1
  obtain ⟨m, rfl⟩ := Int.eq_ofNat_of_zero_le (show 0 ≤ a2 by omega)
  by_cases h2 : l1.length < m
  ·have d2 : decide (l1.length < m) = true := decide_eq_true h2
   clear h1 h2
   go_wp2_with fail
   go_returns
   exact ⟨rfl, HB.out⟩
  ·have d2 : decide (l1.length < m) = false := decide_eq_false h2
   by_cases h3 : a3 < 0
   ·have d3 : decide (a3 < 0) = true := decide_eq_true h3
    clear h1 h2 h3
    go_wp2_with fail
    go_returns
    exact ⟨rfl, HB.out⟩
   ·have d3 : decide (a3 < 0) = false := decide_eq_false h3
    obtain ⟨k, rfl⟩ := Int.eq_ofNat_of_zero_le (show 0 ≤ a3 by omega)
    have hk : 0 < k := by
     rcases Nat.eq_zero_or_pos k with h | h
     ·subst h
      have := HPO.out
      unfold powerOk at this
      simp at this
      omega
     ·exact h
    have d4 : decide (0 < k) = true := decide_eq_true hk
    by_cases h4 : m = l1.length
    ·subst h4
     clear h1 h2 h3 d1 d3
     go_wp2_with fail
     go_returns
     exact ⟨rfl, HB.out⟩
    ·have hlt : m < l1.length := by omega
     have d5 : ((m : Int) == (l1.length : Int)) = false := by rw [beq_eq_false_iff_ne]; omega
     obtain ⟨ad, A2, c2, x, rfl, hx, h0, h1', hc2, hC⟩ := put_at (Kd.C_below HR1.out HB.out) m hlt
     have hkx : x.f1.length < k := by
      have := HPO.out
      unfold powerOk at this
      rw [Int.toNat_natCast, hx] at this
      simp at this
      omega
     have d6 : decide (x.f1.length < k) = true := decide_eq_true hkx
     clear h1 h2 h3 h4 hC hx
     go_wp2_with fail
     go_returns
     exact ⟨rfl, HB.out⟩
theorem torn_good (A0 : Option Addr) (c0 : Nat) (l0 : List Int) (A1 : Option Addr) (c1 : Nat) (l1 : List S42) (m k : Nat) (w : World) (hr0 : Kd.C (Kd.int .u8) w A0 l0.length l0) (hc0 : l0.length ≤ c0)
  (hr1 : Kd.C k42 w A1 l1.length l1) (hc1 : l1.length ≤ c1) (hz : putsF l0 l1 = 0) (hp : powerOk l1 m k = true) :
  Calls Tryz.prog 16 #[.slice A0 l0.length c0, .slice A1 l1.length c1, .int .i64 m, .int .i64 k] w fun e w' => ∃ v, e = .returned (.tuple #[v, .int .i64 0]) ∧
   Kd.R (Kd.int .u8) 5 w' w.heap.size (fun _ => True) v (if k = 0 then doneF l0 (l1.take m) else doneF (doneF l0 (l1.take m)) (partOf l1 m k)) ∧ Below w.heap.size w w' := by
 have HP := Aside0.mk (puts_f l0 l1 (Kd.C_max hr0) (Kd.C_max hr1))
 rw [hz] at HP
 have hmx := Kd.C_max hr1
 obtain ⟨hs, hok⟩ := puts_zero hz
 obtain ⟨s1, s2⟩ := size_pos hs
 have HOK := Aside0.mk hok
 have HR0 := Aside0.mk hr0
 have HR1 := Aside0.mk hr1
 have HPO := Aside0.mk hp
 clear hr0 hr1 hz hs hok hp
 have hml : m ≤ l1.length := by
  have := HPO.out; unfold powerOk at this; simp at this; omega
 have d1 : decide ((m : Int) < 0) = false := decide_eq_false (by omega)
 have d2 : decide (l1.length < m) = false := decide_eq_false (by omega)
 have d3 : decide ((k : Int) < 0) = false := decide_eq_false (by omega)
 have HTK : Aside0 ((l1.take m).length = m) := ⟨by rw [List.length_take]; omega⟩
 have HOKT : Aside0 (∀ p ∈ l1.take m, PutOk l0.length p) := ⟨fun p hp => HOK.out p (List.mem_of_mem_take hp)⟩
 have HL2 : Aside0 ((doneF l0 (l1.take m)).length = l0.length) := ⟨doneF_len _ _ HOKT.out⟩
 have hmc : m ≤ c1 := by omega
 go_enter Tryz.func16, Tryz.ntmps16
 go_wp2_with fail
 refine (disk_puts.calls _ _ _ l0 _ _ l1 _ _ HR0.out hc0 HR1.out hc1 HP.out).mono ?_
 rintro e w1 ⟨rfl, hB⟩
 have HB := Aside0.mk hB
 clear hB
 by_cases hk : k = 0
 ·subst hk
  go_wp2_with fail
  refine (done_n A0 _ c0 l0 A1 m c1 (l1.take m) w1 rfl HTK.out (Kd.C_below HR0.out HB.out) hc0 (by rw [HTK.out]; exact C_takeN (Kd.C_below HR1.out HB.out) m hml) (by rw [HTK.out]; exact hmc) (by omega) (by omega) HOKT.out).mono ?_
  rintro e w2 ⟨v2, rfl, hF, hB2⟩
  have HF := Aside0.mk hF
  have HB2 := Aside0.mk hB2
  clear hF hB2
  go_wp2_with fail
  go_returns
  exact ⟨_, rfl, Kd.R_lower HF.out HB.out.size, HB.out.trans (HB2.out.mono HB.out.size)⟩
 ·have d4 : decide (0 < k) = true := decide_eq_true (by omega)
  have hlt : m < l1.length := by
   have := HPO.out
   unfold powerOk at this
   rw [Int.toNat_natCast] at this
   simp at this
   rcases this.2 with h | h
   ·omega
   ·rcases Nat.lt_or_ge m l1.length with h' | h'
    ·exact h'
    ·rw [List.getElem?_eq_none h'] at h; simp at h
  have d5 : ((m : Int) == (l1.length : Int)) = false := by rw [beq_eq_false_iff_ne]; omega
  obtain ⟨ad, A2, c2, x, rfl, hx, h0, h1', hc2, hC⟩ := put_at (Kd.C_below HR1.out HB.out) m hlt
  have hkx : k ≤ x.f1.length := by
   have := HPO.out
   unfold powerOk at this
   rw [Int.toNat_natCast, hx] at this
   simp at this
   omega
  have d6 : decide (x.f1.length < k) = false := decide_eq_false (by omega)
  have HX := Aside0.mk hx
  have HC := Aside0.mk hC
  clear hx hC
  go_wp2_with fail
  refine (done_n A0 _ c0 l0 (some ad) m c1 (l1.take m) w1 rfl HTK.out (Kd.C_below HR0.out HB.out) hc0 (by rw [HTK.out]; exact C_takeN (Kd.C_below HR1.out HB.out) m hml) (by rw [HTK.out]; exact hmc) (by omega) (by omega) HOKT.out).mono ?_
  rintro e w2 ⟨v2, rfl, hF, hB2⟩
  have h02 := (hB2.cell (World.block_lt_of_cell? _ _ h0)).trans h0
  have h12 := (hB2.cell (World.block_lt_of_cell? _ _ h1')).trans h1'
  obtain ⟨A4, c4, rfl, hl4, hC4⟩ := Kd.R_reads hF
  have HF := Aside0.mk hF
  have HB2 := Aside0.mk hB2
  clear hF hB2
  generalize hzs : doneF l0 (l1.take m) = zs at HF HL2 hl4 hC4 ⊢
  have hkc : k ≤ c2 := by omega
  have hy : (⟨x.f0, x.f1.take k⟩ : S42).f1.length = k := by show (x.f1.take k).length = k; rw [List.length_take]; omega
  have HARM : Aside0 (Calls Tryz.prog 39 #[.slice A4 zs.length c4, .slice (some ⟨w2.heap.size, 0, none⟩) 1 1] (w2.drew.alloc (.cells #[.int .i64 x.f0, .slice A2 k c2] 42)) fun e w' => ∃ v, e = .returned v ∧ FreshB (w2.drew.alloc (.cells #[.int .i64 x.f0, .slice A2 k c2] 42)) w' v (doneF zs [⟨x.f0, x.f1.take k⟩])) := by
   have hnew : (w2.drew.alloc (.cells #[.int .i64 x.f0, .slice A2 k c2] 42)).heap[w2.heap.size]? = some (.cells #[.int .i64 x.f0, .slice A2 k c2] 42 (0, 0)) := heap_alloc_new w2.drew _
   have hCx : Kd.C (Kd.int .u8) (w2.drew.alloc (.cells #[.int .i64 x.f0, .slice A2 k c2] 42)) A2 k (x.f1.take k) := C_takeN (Kd.C_alloc (Kd.C_drew (Kd.C_below HC.out HB2.out)) _) k hkx
   refine ⟨done_n A4 _ c4 zs (some ⟨w2.heap.size, 0, none⟩) 1 1 [⟨x.f0, x.f1.take k⟩] _ rfl rfl (Kd.C_alloc (Kd.C_drew hC4) _) hl4 (one_put (by rw [hy]; exact hnew) (by rw [hy]; omega) (by rw [hy]; exact hCx)) (by simp) (by rw [HL2.out]; omega) (by rw [HL2.out]; omega) ?_⟩
   intro p hp
   obtain rfl := List.mem_singleton.1 hp
   have := HOK.out x (List.mem_of_getElem? HX.out)
   rw [HL2.out]
   exact ⟨this.1, this.2.1, by rw [hy]; have := this.2.2; omega⟩
  have HZS := Aside0.mk hzs.symm
  clear hzs hC4 hy
  go_wp2_with fail
  go_region_law (go_simp; go_at_call 39; refine HARM.out.mono ?_; rintro e w3 ⟨v3, rfl, hF3, hB3⟩; have HF3 := Aside0.mk hF3; have HB3 := Aside0.mk hB3; clear hF3 hB3)
  all_goals
   go_wp2_with fail
   go_returns
   refine ⟨_, rfl, ?_, ?_⟩
   ·try rw [if_neg hk]
    rw [partOf, HX.out, ← HZS.out]
    refine Kd.R_lower HF3.out ?_
    have h1 := HB.out.size
    have h2 := HB2.out.size
    show w.heap.size ≤ (w2.heap.push _).size
    simp
    omega
   ·have h2 : Below w.heap.size w (w2.drew.alloc (.cells #[.int .i64 x.f0, .slice A2 k c2] 42)) := below_alloc (pw_below_drewN (HB.out.trans (HB2.out.mono HB.out.size)) 1) _
    exact h2.trans (HB3.out.mono h2.size)
theorem disk_Torn.calls (A0 : Option Addr) (c0 : Nat) (l0 : List Int) (A1 : Option Addr) (c1 : Nat) (l1 : List S42) (a2 a3 : Int) (r1 : List Int) (r2 : Int) (w : World) (hr0 : Kd.C (Kd.int .u8) w A0 l0.length l0) (hc0 : l0.length ≤ c0)
  (hr1 : Kd.C k42 w A1 l1.length l1) (hc1 : l1.length ≤ c1) (h : disk_Torn.f l0 l1 a2 a3 = some (r1, r2)) :
  Calls Tryz.prog 16 #[.slice A0 l0.length c0, .slice A1 l1.length c1, .int .i64 a2, .int .i64 a3] w fun e w' => ∃ v0_ : Value, e = .returned (.tuple #[v0_, .int .i64 r2]) ∧ Kd.R (Kd.int .u8) 5 w' w.heap.size (fun _ => True) v0_ r1 ∧ Below w.heap.size w w' := by
 unfold disk_Torn.f at h
 replace h := Option.some.inj h
 by_cases h0 : putsF l0 l1 = 0
 ·rw [if_pos h0] at h
  cases hp : powerOk l1 a2 a3 with
  | false =>
   rw [hp, if_neg (by simp)] at h
   obtain ⟨rfl, rfl⟩ := Prod.mk.inj h
   refine (torn_bad A0 c0 l0 A1 c1 l1 a2 a3 w hr0 hc0 hr1 hc1 h0 hp).mono ?_
   rintro e w' ⟨rfl, hB⟩
   exact ⟨_, rfl, Kd.R_nil _ _ _ _ _, hB⟩
  | true =>
   rw [hp, if_pos rfl] at h
   obtain ⟨rfl, rfl⟩ := Prod.mk.inj h
   have hp' := hp
   unfold powerOk at hp'
   simp at hp'
   obtain ⟨m, rfl⟩ := Int.eq_ofNat_of_zero_le (show 0 ≤ a2 by omega)
   obtain ⟨k, rfl⟩ := Int.eq_ofNat_of_zero_le (show 0 ≤ a3 by omega)
   refine (torn_good A0 c0 l0 A1 c1 l1 m k w hr0 hc0 hr1 hc1 h0 hp).mono ?_
   rintro e w' ⟨v, rfl, hR, hB⟩
   refine ⟨_, rfl, ?_, hB⟩
   by_cases hk : k = 0
   ·subst hk; simpa using hR
   ·rw [if_neg hk] at hR
    rw [if_neg (by omega)]
    exact hR
 ·rw [if_neg h0] at h
  obtain ⟨rfl, rfl⟩ := Prod.mk.inj h
  have HP := Aside0.mk (puts_f l0 l1 (Kd.C_max hr0) (Kd.C_max hr1))
  have HR0 := Aside0.mk hr0
  have HR1 := Aside0.mk hr1
  generalize putsF l0 l1 = z at *
  have hz' : (z != 0) = true := bne_iff_ne.mpr h0
  have hz2 : (z == 0) = false := beq_eq_false_iff_ne.mpr h0
  clear h h0 hr0 hr1
  go_enter Tryz.func16, Tryz.ntmps16
  go_wp2_with fail
  refine (disk_puts.calls _ _ _ l0 _ _ l1 _ _ HR0.out hc0 HR1.out hc1 HP.out).mono ?_
  rintro e w1 ⟨rfl, hB⟩
  have HB := Aside0.mk hB
  clear hB
  go_wp2_with fail
  go_returns
  exact ⟨_, rfl, Kd.R_nil _ _ _ _ _, HB.out⟩
/-- the bytes of a record, of records -/
def recB (r : S40) : List Int := longL r.f0 ++ (wordL r.f1.length ++ r.f1)
def recsB (l : List S40) : List Int := l.flatMap recB
theorem recB_len (r : S40) : (recB r).length = 10 + r.f1.length := by simp [recB, longL, wordL]; omega
theorem recsB_cons (r : S40) (l : List S40) : recsB (r :: l) = recB r ++ recsB l := rfl
theorem recsB_step (l : List S40) (i : Nat) (h : i < l.length) : recsB (l.drop i) = recB l[i] ++ recsB (l.drop (i + 1)) := by
 rw [List.drop_eq_getElem_cons h, recsB_cons]
theorem rdP (l : List S40) (i : Nat) (h : i < l.length) : rd_T40 l (i : Int) = l[i] := by
 unfold rd_T40
 simp [List.getD_eq_getElem?_getD, List.getElem?_eq_getElem h]
theorem long_at (d : Int) (k : Nat) (h : 9 ≤ k) : disk_long.f k d = some (longL d) := mono_to (f := fun k => disk_long.f k d) (fun k => disk_long.mono d k) (long_f d) k h
theorem bytesOf_l0 (l : List S40) (hl : l.length ≤ 9223372036854775807) : ∀ (m i k : Nat) (acc : List Int), i + m = l.length → m + 9 < k → acc.length + (recsB (l.drop i)).length ≤ 70368744177664 →
  disk_bytesOf.l0 k acc l (l.length : Int) (i : Int) = some (acc ++ recsB (l.drop i)) := by
 intro m
 induction m with
 | zero =>
  intro i k acc hi hk _
  obtain ⟨k, rfl⟩ : ∃ j, k = j + 1 := ⟨k - 1, by omega⟩
  rw [disk_bytesOf.l0, if_neg (by omega), List.drop_of_length_le (by omega)]
  simp [recsB]
 | succ m ih =>
  intro i k acc hi hk hb
  obtain ⟨k, rfl⟩ : ∃ j, k = j + 1 := ⟨k - 1, by omega⟩
  have hlt : i < l.length := by omega
  have e2 : wrap64 ((i : Int) + 1) = ((i + 1 : Nat) : Int) := by unfold wrap64; omega
  rw [recsB_step l i hlt] at hb ⊢
  rw [List.length_append] at hb
  have hrl := recB_len l[i]
  have hf : ([acc, longL l[i].f0, wordL (l[i].f1.length : Int), l[i].f1] : List (List Int)).flatten = acc ++ recB l[i] := by simp [recB]
  have hc : slices_Concat_byte_byte.f [acc, longL l[i].f0, wordL (l[i].f1.length : Int), l[i].f1] = some (acc ++ recB l[i]) := by
   unfold slices_Concat_byte_byte.f
   rw [hf, if_pos (by rw [List.length_append]; omega)]
  have hw : disk_word.f (l[i].f1.length : Int) = some (wordL (l[i].f1.length : Int)) := rfl
  rw [disk_bytesOf.l0, if_pos (by omega), if_pos (by omega), if_pos (by omega), rdP l i hlt, long_at _ k (by omega), Option.bind_some, hw, Option.bind_some, hc, Option.bind_some, e2,
   ih (i + 1) k (acc ++ recB l[i]) (by omega) (by omega) (by rw [List.length_append]; omega), List.append_assoc]
theorem bytesOf_f (l : List S40) (hl : l.length ≤ 9223372036854775807) (hb : (recsB l).length ≤ 70368744177664) : disk_bytesOf.f (l.length + 10) l = some (recsB l) := by
 unfold disk_bytesOf.f
 have := bytesOf_l0 l hl l.length 0 (l.length + 10) [] (by omega) (by omega) (by simpa using hb)
 simpa using this
/-- the error of records -/
def askedR : Option Int → List S40 → Int
 | _, [] => 0
 | last, r :: l => if r.f0 < 1 then 1 else if r.f0 > 4611686018427387904 then 1 else if (r.f1.length : Int) > 4000 then 1 else
  match last with | none => askedR (some r.f0) l | some n => if r.f0 ≤ n then 1 else askedR (some r.f0) l
theorem askedR_nil (o : Option Int) : askedR o [] = 0 := by cases o <;> rfl
theorem askedR_cons (last : Option Int) (r : S40) (l : List S40) : askedR last (r :: l) = if r.f0 < 1 then 1 else if r.f0 > 4611686018427387904 then 1 else if (r.f1.length : Int) > 4000 then 1 else
  match last with | none => askedR (some r.f0) l | some n => if r.f0 ≤ n then 1 else askedR (some r.f0) l := by cases last <;> rfl
def askedF (l : List S40) : Int := askedR none l
theorem asked_l0 (l : List S40) (hl : l.length ≤ 9223372036854775807) : ∀ (m i k : Nat), i + m = l.length → m < k →
  disk_asked.l0 k l l (l.length : Int) (i : Int) = some (askedR (if i = 0 then none else (l[i - 1]?).map (·.f0)) (l.drop i)) := by
 intro m
 induction m with
 | zero =>
  intro i k hi hk
  obtain ⟨k, rfl⟩ : ∃ j, k = j + 1 := ⟨k - 1, by omega⟩
  rw [disk_asked.l0, if_neg (by omega), List.drop_of_length_le (by omega), askedR_nil]
 | succ m ih =>
  intro i k hi hk
  obtain ⟨k, rfl⟩ : ∃ j, k = j + 1 := ⟨k - 1, by omega⟩
  have hlt : i < l.length := by omega
  have e2 : wrap64 ((i : Int) + 1) = ((i + 1 : Nat) : Int) := by unfold wrap64; omega
  have hnext : disk_asked.l0 k l l (l.length : Int) ((i + 1 : Nat) : Int) = some (askedR (some l[i].f0) (l.drop (i + 1))) := by
   rw [ih (i + 1) k (by omega) (by omega), if_neg (by omega), Nat.add_sub_cancel, List.getElem?_eq_getElem hlt]
   rfl
  rw [disk_asked.l0, if_pos (by omega), if_pos (by omega), if_pos (by omega), rdP l i hlt, e2, hnext, List.drop_eq_getElem_cons hlt, askedR_cons]
  by_cases h1 : l[i].f0 < 1
  ·rw [if_pos h1, if_pos h1]
  rw [if_neg h1, if_neg h1]
  by_cases h2 : l[i].f0 > 4611686018427387904
  ·rw [if_pos h2, if_pos h2]
  rw [if_neg h2, if_neg h2]
  by_cases h3 : (l[i].f1.length : Int) > 4000
  ·rw [if_pos h3, if_pos h3]
  rw [if_neg h3, if_neg h3]
  by_cases h0 : i = 0
  ·subst h0
   rw [if_neg (by omega), if_pos rfl]
  ·have e3 : wrap64 ((i : Int) - 1) = ((i - 1 : Nat) : Int) := by unfold wrap64; omega
   have hlt1 : i - 1 < l.length := by omega
   rw [if_pos (by omega), e3, if_pos (by omega), if_pos (by omega), rdP l (i - 1) hlt1, if_neg h0, List.getElem?_eq_getElem hlt1]
   simp only [Option.map_some]
   by_cases h4 : l[i].f0 ≤ l[i - 1].f0
   ·rw [if_pos h4, if_pos h4]
   ·rw [if_neg h4, if_neg h4]
theorem asked_f (l : List S40) (hl : l.length ≤ 9223372036854775807) : disk_asked.f (l.length + 1) l = some (askedF l) := by
 unfold disk_asked.f askedF
 have := asked_l0 l hl l.length 0 (l.length + 1) (by omega) (by omega)
 simpa using this
open Go Go.RowKit Go.Shelf Go.Proofs.YtcdpkdehogcjnaaGreatW.PrintWords Go.Proofs.YtcdpkdehogcjnaaGreatW.PrintLast Go.Proofs.YtcdpkdehogcjnaaGreatW.PrintMore
attribute [local go_sem] Oper.semAt_some
/-- a piece as it is handed on: its number, its slice -/
structure Pc where
 i : Nat
 A : Option Addr
 n : Nat
 c : Nat
abbrev pcE (x : Pc) : Array Value := #[.int .i64 x.i, .slice x.A x.n x.c]
/-- the pieces of a slice -/
def pcs : Nat → Option Addr → Nat → Nat → Nat → List Pc
 | 0, _, _, _, _ => []
 | f + 1, A, n, c, i => if n = 0 then [] else ⟨i, A, min 62 n, c⟩ :: pcs f (if c = min 62 n then A else A.map (·.add (min 62 n))) (n - min 62 n) (c - min 62 n) (i + 1)
theorem pcs_zero (f : Nat) (A : Option Addr) (c i : Nat) : pcs f A 0 c i = [] := by cases f <;> simp [pcs]
set_option maxRecDepth 100000 in
set_option maxHeartbeats 2000000 in
theorem pieces1_box (F : Fence) (n : Nat) (hf : F.fn 93) (hro : F.round = none) (hn : 1 ≤ n) (bB : Nat) (A : Option Addr) (m c : Nat) (hmc : m ≤ c) (hm : m ≤ 70368744177664) :
  SeqBox F n Tryz.prog 93 #[.pointer (some ⟨bB, 0, none⟩)] pcE bB (.cells #[.slice A m c] 22 (0, 0)) (pcs m A m c 0) := by
 intro l J W hset hlt hY hob h0
 refine callsIn_of_wp Tryz.func93 rfl hf ?_ hro
 simp only [Tryz.ntmps93, List.size_toArray, List.length_cons, List.length_nil, Nat.reduceAdd, Nat.reduceSub, Array.replicate_succ, Array.replicate_zero, List.push_toArray, List.append_toArray, List.nil_append, List.cons_append]
 gi_wp2
 gi_loopw [3] (fun k wr => ∃ (i f : Nat) (A' : Option Addr) (m' c' : Nat) (pre : List Pc), k = .int .i64 i ∧ pre.length = i ∧ m' ≤ c' ∧ m' ≤ f ∧ i + m' ≤ m ∧ Aside0 (pcs m A m c 0 = pre ++ pcs f A' m' c' i) ∧ Aside0 (wr.heap[bB]? = some (.cells #[.slice A' m' c'] 22 (0, 0))) ∧ Aside0 (J pre wr))
  (fun k _ => m + 1 - (intOf k).toNat)
 case atStart => exact ⟨0, m, A, m, c, [], rfl, rfl, hmc, Nat.le_refl _, by omega, ⟨rfl⟩, ⟨hob⟩, ⟨h0⟩⟩
 case round =>
  obtain ⟨i, f, A', m', c', pre, rfl, hpl, hmc', hmf, him, HE, HO, HJ⟩ := hrel
  have c0 := blk_cell HO.out 0
  simp at c0
  have f0 := blk_frozen HO.out 0
  by_cases h : m' = 0
  ·subst h
   gi_wp2
   go_end0
   refine ⟨⟨_, rfl⟩, ?_⟩
   rw [HE.out, pcs_zero, List.append_nil]
   exact HJ.out
  ·have hd : decide (0 < m') = true := decide_eq_true (by omega)
   obtain ⟨f, rfl⟩ : ∃ g, f = g + 1 := ⟨f - 1, by omega⟩
   have hE := HE.out
   rw [pcs, if_neg h] at hE
   have hlast : ∀ q, q = min 62 m' → pre ++ [⟨i, A', q, c'⟩] <+: pcs m A m c 0 := fun q hq => ⟨pcs f (if c' = min 62 m' then A' else A'.map (·.add (min 62 m'))) (m' - min 62 m') (c' - min 62 m') (i + 1), by rw [hE, hq, List.append_assoc]; rfl⟩
   have hnext : ∀ q, q = min 62 m' → pcs m A m c 0 = (pre ++ [⟨i, A', q, c'⟩]) ++ pcs f (if c' = q then A' else A'.map (·.add q)) (m' - q) (c' - q) (i + 1) := fun q hq => by rw [hE, hq, List.append_assoc]; rfl
   have HN := Aside0.mk hnext
   clear hnext hE
   have him2 : i + 1 ≤ m := by omega
   rcases Nat.lt_or_ge m' 62 with h62 | h62
   ·obtain ⟨fn, tmps, assign, body, hy, hR⟩ := hY pre ⟨i, A', m', c'⟩ wr HJ.out (hlast m' (by omega))
    dsimp only [pcE] at hy
    have hmin : (m' : Int) < 62 := by omega
    gi_wp2
    refine hR.mono ?_
    rintro e W3 ⟨rfl, hJ3, hb3⟩
    have hO3 := hb3.trans HO.out
    have c3 := blk_cell hO3 0
    simp at c3
    have f3 := blk_frozen hO3 0
    have HO3 := Aside0.mk hO3
    have HJ3 := Aside0.mk hJ3
    clear hO3 hJ3 hb3 hR hy
    gi_wp2
    go_roundw
    case measure => simp [intOf]; omega
    case rel =>
     have hs := blk_set HO3.out 0 (.slice (if c' = m' then A' else A'.map (·.add m')) 0 (c' - m'))
     simp at hs
     exact ⟨i + 1, f, _, _, _, pre ++ [⟨i, A', m', c'⟩], by go_num, by simp [hpl], by omega, by omega, by omega, ⟨by have h_ := HN.out m' (by omega); rwa [Nat.sub_self] at h_⟩, ⟨hs⟩, ⟨hset _ _ _ HJ3.out⟩⟩
   ·obtain ⟨fn, tmps, assign, body, hy, hR⟩ := hY pre ⟨i, A', 62, c'⟩ wr HJ.out (hlast 62 (by omega))
    dsimp only [pcE] at hy
    have hmin : ¬ (m' : Int) < 62 := by omega
    gi_wp2
    refine hR.mono ?_
    rintro e W3 ⟨rfl, hJ3, hb3⟩
    have hO3 := hb3.trans HO.out
    have c3 := blk_cell hO3 0
    simp at c3
    have f3 := blk_frozen hO3 0
    have HO3 := Aside0.mk hO3
    have HJ3 := Aside0.mk hJ3
    clear hO3 hJ3 hb3 hR hy
    gi_wp2
    go_roundw
    case measure => simp [intOf]; omega
    case rel =>
     have hs := blk_set HO3.out 0 (.slice (if c' = 62 then A' else A'.map (·.add 62)) (m' - 62) (c' - 62))
     simp at hs
     exact ⟨i + 1, f, _, _, _, pre ++ [⟨i, A', 62, c'⟩], by go_num, by simp [hpl], by omega, by omega, by omega, ⟨HN.out 62 (by omega)⟩, ⟨hs⟩, ⟨hset _ _ _ HJ3.out⟩⟩
attribute [local go_sem] Oper.semAt_some
def roomN (nb : Nat) : Nat := 62 * ((nb - 2) / 2)
def writesOk (nb : Nat) (ver : Int) (bs : List Int) : Bool := decide (bs.length ≤ roomN nb) && decide (ver < 1099511627776)
theorem room_f (nb : Nat) (h8 : 8 ≤ nb) (h : nb ≤ 256) : disk_room.f (nb : Int) = some (roomN nb : Int) := by
 unfold disk_room.f roomN wrap64
 rw [Int.tdiv_eq_ediv_of_nonneg (by omega)]
 congr 1
 omega
theorem C_V {w : World} {A : Option Addr} {c : Nat} {l : List S40} (h : Kd.C k40 w A l.length l) (hc : l.length ≤ c) : Kd.V k40 40 w w.heap.size (fun _ => True) (.slice A l.length c) l := by
 exact Kd.V_mono (Kd.V_mk hc (Kd.C_F (Kd.heap_iso _ (Kd.heap_pair (Kd.heap_int .i64) (Kd.heap_slice 5 (Kd.heap_int .u8))) : Kd.Heap k40) h)) (fun _ _ => trivial)
set_option maxRecDepth 100000 in
set_option maxHeartbeats 2000000 in
theorem writes_bad (g mb : Nat) (A : Option Addr) (n c j : Nat) (st : HSt) (vr : Value) (nb : Nat) (A1 : Option Addr) (c1 : Nat) (l : List S40) (w : World)
  (hg : w.heap[g]? = some (.cells #[.slice A n c, .int .i64 j, .int .i64 st.ver, .map (some mb), vr] 81 (0, 0))) (hn : n = nb * 64) (h8 : 8 ≤ nb) (h256 : nb ≤ 256)
  (hr : Kd.C k40 w A1 l.length l) (hc : l.length ≤ c1) (hb : (recsB l).length ≤ 70368744177664) (hbad : writesOk nb st.ver (recsB l) = false) :
  Calls Tryz.prog 48 #[.pointer (some ⟨g, 0, none⟩), .slice A1 l.length c1] w fun e w' => e = .returned (.tuple #[.slice none 0 0, .int .i64 2]) ∧ Below w.heap.size w w' := by
 subst hn
 have HP := Aside0.mk (bytesOf_f l (Kd.C_max hr) hb)
 have HR := Aside0.mk hr
 have hgl := blk_lt hg
 have c0 := blk_cell hg 0
 have c2 := blk_cell hg 2
 simp at c0 c2
 clear hr
 go_enter Tryz.func48, Tryz.ntmps48
 have HB2 := Aside0.mk hbad
 have HRM := Aside0.mk (room_f nb h8 h256)
 obtain ⟨b, hbl⟩ : ∃ b, b = (recsB l).length := ⟨_, rfl⟩
 have HBL := Aside0.mk hbl
 rw [← hbl] at hb
 obtain ⟨rm, hrm⟩ : ∃ rm, rm = roomN nb := ⟨_, rfl⟩
 rw [← hrm] at HRM
 have HRN := Aside0.mk hrm
 clear hbl hbad hrm hg
 go_wp2_with fail
 refine (disk_bytesOf.calls _ (fun _ => True) _ _ l (recsB l) w (C_V HR.out hc) HP.out).mono ?_
 rintro e w1 ⟨v1, rfl, hR1, hB1⟩
 obtain ⟨A2, c2', rfl⟩ := Kd.R_slice hR1
 rw [← HBL.out] at hR1 ⊢
 have HR1 := Aside0.mk hR1
 have HB1 := Aside0.mk hB1
 have d0 : w1.cell? ⟨g, 0, none⟩ = some (.slice A (nb * 64) c) := (hB1.cell (p := ⟨g, 0, none⟩) hgl).trans c0
 have d2 : w1.cell? ⟨g, 2, none⟩ = some (.int .i64 st.ver) := (hB1.cell (p := ⟨g, 2, none⟩) hgl).trans c2
 clear hR1 hB1
 by_cases h1 : rm < b
 ·have e1 : decide (rm < b) = true := decide_eq_true h1
  go_wp2_with fail
  refine (disk_room.calls _ _ _ HRM.out).mono ?_
  rintro e w2 ⟨rfl, ⟨nd, rfl⟩⟩
  go_wp2_with fail
  go_returns
  exact ⟨rfl, pw_below_drewN HB1.out _⟩
 ·have e1 : decide (rm < b) = false := decide_eq_false h1
  have hv : 1099511627776 ≤ st.ver := by
   have := HB2.out
   unfold writesOk at this
   rw [← HBL.out, ← HRN.out] at this
   simp at this
   omega
  have e2 : decide (1099511627776 ≤ st.ver) = true := decide_eq_true hv
  clear h1 hv
  go_wp2_with fail
  refine (disk_room.calls _ _ _ HRM.out).mono ?_
  rintro e w2 ⟨rfl, ⟨nd, rfl⟩⟩
  go_wp2_with fail
  go_returns
  exact ⟨rfl, pw_below_drewN HB1.out _⟩
open Go Go.RowKit Go.Proofs.YtcdpkdehogcjnaaGreatW.PrintWords Go.Proofs.YtcdpkdehogcjnaaGreatW.PrintLast Go.Proofs.YtcdpkdehogcjnaaGreatW.PrintMore
theorem pcs_len : ∀ (f : Nat) (A : Option Addr) (n c i : Nat), n ≤ f → (pcs f A n c i).length = (n + 61) / 62
 | 0, A, n, c, i, h => by
  obtain rfl : n = 0 := by omega
  simp [pcs]
 | f + 1, A, n, c, i, h => by
  unfold pcs
  by_cases h0 : n = 0
  ·subst h0; simp
  ·rw [if_neg h0, List.length_cons, pcs_len f _ _ _ _ (by omega)]
   omega
/-- what a piece holds -/
theorem pcs_at (W : World) : ∀ (f : Nat) (A : Option Addr) (n c i : Nat) (xs : List Int), n ≤ f → n ≤ c → Kd.C (Kd.int .u8) W A n xs → ∀ (k : Nat) (x : Pc), (pcs f A n c i)[k]? = some x →
  x.i = i + k ∧ x.n ≤ x.c ∧ x.n = ((xs.drop (62 * k)).take 62).length ∧ Kd.C (Kd.int .u8) W x.A x.n ((xs.drop (62 * k)).take 62)
 | 0, A, n, c, i, xs, h, _, _, k, x, hx => by simp [pcs] at hx
 | f + 1, A, n, c, i, xs, h, hc, hC, k, x, hx => by
  have hl : xs.length = n := Kd.C_len hC
  unfold pcs at hx
  by_cases h0 : n = 0
  ·subst h0; simp at hx
  ·rw [if_neg h0] at hx
   cases k with
   | zero =>
    simp at hx
    subst hx
    refine ⟨rfl, by show min 62 n ≤ c; omega, by simp [hl], ?_⟩
    show Kd.C (Kd.int .u8) W A (min 62 n) _
    have h2 := C_takeN hC (min 62 n) (by omega)
    have e : xs.take (min 62 n) = (xs.drop (62 * 0)).take 62 := by
     
     rw [Nat.mul_zero, List.drop_zero]
     by_cases hb : 62 ≤ n
     ·rw [show min 62 n = 62 by omega]
     ·rw [show min 62 n = n by omega, List.take_of_length_le (by omega), List.take_of_length_le (by omega)]
    rwa [e] at h2
   | succ k =>
    rw [List.getElem?_cons_succ] at hx
    have h2 := C_dropN hC (min 62 n) (by omega) hc
    have h3 := pcs_at W f _ _ _ _ (xs.drop (min 62 n)) (by omega) (by omega) h2 k x hx
    obtain ⟨r1, r2, r3, r4⟩ := h3
    by_cases hb : 62 ≤ n
    ·have e : (xs.drop (min 62 n)).drop (62 * k) = xs.drop (62 * (k + 1)) := by rw [List.drop_drop]; congr 1; omega
     rw [e] at r3 r4
     exact ⟨by omega, r2, r3, r4⟩
    ·exfalso
     have hz : n - min 62 n = 0 := by omega
     rw [hz, pcs_zero] at hx
     simp at hx
def chunk (bs : List Int) (k : Nat) : List Int := (bs.drop (62 * k)).take 62
def putAt (f bs : List Int) (k : Nat) : S42 := ⟨f.getD k 0, wordL (f.getD (k + 1) 0) ++ (chunk bs k ++ List.replicate (62 - (chunk bs k).length) 0)⟩
def writesL (f bs : List Int) (m : Nat) : List S42 := (List.range m).map (putAt f bs)
theorem writesL_succ (f bs : List Int) (m : Nat) : writesL f bs (m + 1) = writesL f bs m ++ [putAt f bs m] := by simp [writesL, List.range_succ]
theorem writesL_len (f bs : List Int) (m : Nat) : (writesL f bs m).length = m := by simp [writesL]
/-- the writes of a state's change: j its head, ver its version, fr the free blocks, bs the records' bytes -/
def writesF (j : Nat) (ver : Int) (fr bs : List Int) : List S42 :=
 writesL (fr.take ((bs.length + 61) / 62) ++ [0]) bs ((bs.length + 61) / 62) ++
  [⟨1 - (j : Int), headB ((bs.length + 61) / 62 : Nat) bs.length ((fr.take ((bs.length + 61) / 62) ++ [0]).getD 0 0) (ver + 1) ++ headB ((bs.length + 61) / 62 : Nat) bs.length ((fr.take ((bs.length + 61) / 62) ++ [0]).getD 0 0) (ver + 1)⟩]
theorem chunk_len (bs : List Int) (k : Nat) : (chunk bs k).length ≤ 62 := by simp [chunk]; omega
theorem putAt_len (f bs : List Int) (k : Nat) : (putAt f bs k).f1.length = 64 := by
 have := chunk_len bs k
 simp [putAt, wordL]
 omega
/-- a row of one's own abides the turn of a block that holds no cells -/
theorem R_other {α : Type} {d : Kd α} {e base : Nat} {ok : Nat → Prop} {W W' : World} {v : Value} {xs : List α} {row : Option Nat} (h : d.R e W base ok v xs) (hg : W.grownBy W' row)
  (hr : ∀ r, row = some r → ∃ o : Obj, W.heap[r]? = some o ∧ o.isCells = false) : d.R e W' base ok v xs := by
 refine Kd.R_mono (Kd.R_step (Kd.R_bound h) (fun k hk hl => hg.block k hl (fun he => ?_))) (fun _ hk => hk.1)
 obtain ⟨_, _, _, q, _, cells, hc⟩ := hk
 obtain ⟨o, ho, hn⟩ := hr k he.symm
 rw [hc] at ho
 cases ho
 cases hn
theorem blk_other {W W' : World} {row : Option Nat} {k : Nat} {cells : Array Value} {t : TypeId} {z : Nat × Nat} (h : W.heap[k]? = some (.cells cells t z)) (hg : W.grownBy W' row)
  (hr : ∀ r, row = some r → ∃ o : Obj, W.heap[r]? = some o ∧ o.isCells = false) : W'.heap[k]? = some (.cells cells t z) := by
 refine (hg.block k (blk_lt h) (fun he => ?_)).trans h
 obtain ⟨o, ho, hn⟩ := hr k he.symm
 rw [h] at ho
 cases ho
 cases hn
/-- between two rounds of writes: the boxes of f and out, what they hold -/
structure WI (w : World) (bf bo bq : Nat) (fv bv : Value) (f bs : List Int) (acc : List S42) (W : World) : Prop where
 hB : Below w.heap.size w W
 hf : W.heap[bf]? = some (.cells #[fv] 24 (0, 0))
 hF : Kd.R (Kd.int .i64) 3 W w.heap.size (fun _ => True) fv f
 hb : Kd.R (Kd.int .u8) 5 W w.heap.size (fun _ => True) bv bs
 ho : ∃ v, W.heap[bo]? = some (.cells #[v] 25 (0, 0)) ∧ Kd.R k42 42 W w.heap.size (fun _ => True) v acc
 hq : ∃ x, W.heap[bq]? = some (.cells #[x] 22 (0, 0))
theorem WI.box {w : World} {bf bo bq : Nat} {fv bv : Value} {f bs : List Int} {acc : List S42} {W : World} (h : WI w bf bo bq fv bv f bs acc W) (hw : w.heap.size ≤ bq) (h1 : bf ≠ bq) (h2 : bo ≠ bq) (u : Value) : WI w bf bo bq fv bv f bs acc (W.setCell ⟨bq, 0, none⟩ u) := by
 obtain ⟨x, hx⟩ := h.hq
 obtain ⟨v, k1, k2⟩ := h.ho
 refine ⟨h.hB.setCell hw _, (Below.heap_setCell _ _ _ _ h1).trans h.hf, Kd.R_set h.hF hx (by decide) 0 u, Kd.R_set h.hb hx (by decide) 0 u, ⟨v, (Below.heap_setCell _ _ _ _ h2).trans k1, Kd.R_set k2 hx (by decide) 0 u⟩, u, ?_⟩
 have := blk_set hx 0 u
 simpa using this
theorem WI.own {w : World} {bf bo bq N : Nat} {fv bv : Value} {f bs : List Int} (g : List Pc → List S42) (hN : w.heap.size ≤ N) : OwnFrom N (fun pre W => WI w bf bo bq fv bv f bs (g pre) W) := by
 intro s W W' row h hg hr
 have hr2 : ∀ r, row = some r → ∃ o : Obj, W.heap[r]? = some o ∧ o.isCells = false := fun r e => (hr r e).2
 obtain ⟨v, h1, h2⟩ := h.ho
 exact ⟨h.hB.grown hg h.hB.size (fun k hk => by have := (hr k hk).1; omega), blk_other h.hf hg hr2, R_other h.hF hg hr2, R_other h.hb hg hr2, ⟨v, blk_other h1 hg hr2, R_other h2 hg hr2⟩, (by obtain ⟨x, hx⟩ := h.hq; exact ⟨x, blk_other hx hg hr2⟩)⟩
end Go.Proofs.YtcdpkdehogcjnaaGreat.Print
