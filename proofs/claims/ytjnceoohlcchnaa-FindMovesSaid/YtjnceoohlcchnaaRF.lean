/- A range over a function; following hints: contracts, whatever the input. -/
import Derived.RangeFuncNested
import Derived.RangeFuncBound
import Derived.RangeFuncCalls
import Derived.RangeFuncLeaves
import Derived.RangeFuncFrom
import Derived.Test.YtjnceoohlcchnaaProg
import Derived.Test.YtjnceoohlcchnaaRD
import Derived.RangeFuncBox
import Derived.Shelf.Abstract
import Derived.OwnWalkIn
import Derived.TacticsInMore
import Derived.LoopNIn
import Derived.LoopIn
import Derived.Test.YtjnceoohlcchnaaRE
set_option linter.unusedVariables false
set_option linter.unusedSimpArgs false
/-! A range over a closure all of whose own memory lies below block B; a body that turns nothing below B and never leaves. -/
namespace Go.Proofs.Ytjnceoohlcchnaa.Print
open Go Go.RowKit
variable {F : Fence} {n : Nat} {P : Program}

/-- from block B on the world is as it was -/
structure KeepHi (B : Nat) (w w' : World) : Prop where
  os : w'.os = w.os
  tape : w'.tape = w.tape
  output : w'.output = w.output
  size : w.heap.size ≤ w'.heap.size
  block : ∀ k, B ≤ k → k < w.heap.size → w'.heap[k]? = w.heap[k]?
theorem KeepHi.refl (B : Nat) (w : World) : KeepHi B w w := ⟨rfl, rfl, rfl, Nat.le_refl _, fun _ _ _ => rfl⟩
theorem KeepHi.trans {B : Nat} {a b c : World} (h : KeepHi B a b) (k : KeepHi B b c) : KeepHi B a c :=
  ⟨k.os.trans h.os, k.tape.trans h.tape, k.output.trans h.output, Nat.le_trans h.size k.size, fun i hi hl => (k.block i hi (Nat.lt_of_lt_of_le hl h.size)).trans (h.block i hi hl)⟩
theorem KeepHi.of_below {B : Nat} {a b : World} (h : Below a.heap.size a b) : KeepHi B a b := ⟨h.os, h.tape, h.output, h.size, fun i _ hl => h.block i hl⟩
theorem KeepHi.set {B : Nat} {a b : World} (h : KeepHi B a b) {p : Addr} (hp : p.block < B) (u : Value) : KeepHi B a (b.setCell p u) :=
  ⟨h.os, h.tape, h.output, by unfold World.setCell; simp; exact h.size, fun i hi hl => (Below.heap_setCell b p u i (by omega)).trans (h.block i hi hl)⟩

/-- what such an iterator does: it hands on xs, one by one, and turns no block from B on -/
def SeqZ {α : Type} (F : Fence) (n : Nat) (P : Program) (g : Nat) (lb : Array Value) (encs : α → Array Value) (B : Nat) (Init Fin : World → Prop) (xs : List α) : Prop :=
  ∀ (l : Nat) (J : List α → World → Prop) (W : World), (∀ s W W', J s W → KeepHi B W W' → J s W') → B ≤ W.heap.size →
    (∀ pre x W1, J pre W1 → B ≤ W1.heap.size → pre ++ [x] <+: xs → YieldAt F (n - 1) P l (encs x) W1 fun e W' => e = .returned (.bool true) ∧ J (pre ++ [x]) W' ∧ Below B W1 W') →
    Init W → J [] W →
    CallsIn F n P g (#[.func (.yield l) #[] #[]] ++ lb) W fun e W' => (∃ v, e = .returned v) ∧ J xs W' ∧ Fin W' ∧ B ≤ W'.heap.size

theorem wpIn_rangeFunc_zone {α : Type} {g : Operand} {ps : Array Tmp} {assign body : Code} {Q : Exit → Act → World → Prop} {a : Act} {w : World}
    (hro : F.round = none) (h1 : 1 ≤ n) {gf : Nat} {lb : Array Value} (hg : a.eval g = .func (.func gf) #[] lb) (hFg : F.fn gf) (eg : ∀ args w, (callFunc gf args).run P w = .ok (.enter gf args) w)
    {encs : α → Array Value} {B : Nat} {Init Fin : World → Prop} {xs : List α} (hseq : SeqZ F (n - 1) P gf lb encs B Init Fin xs) (hB : B ≤ w.heap.size)
    (hInit : ∀ W W', Init W → Below B W W' → Init W') (hFin : ∀ W W', Fin W → Below B W W' → Fin W') (hi : Init w)
    (hps : ∀ x, (encs x).size = ps.size) (I : List α → World → Prop) (hI : OwnFrom w.heap.size I) (hIz : ∀ s W W', I s W → KeepHi B W W' → I s W') (h0 : I [] w) (a₁ : α → Act)
    (hassign : ∀ (l : Nat) (x : α) (W : World) (K : Act → World → Prop), K (a₁ x) W →
      assign.wpIn (F.inRound l) (n - 1 - 1) P (Exit.then K (fun _ _ _ => False)) { tmps := (ps.zip (encs x)).foldl (fun t (p, v) => t.setIfInBounds p v) a.tmps, defers := [] } W)
    (hbody : ∀ (l : Nat) (pre : List α) (x : α) (W : World), I pre W → pre ++ [x] <+: xs → w.heap.size + 2 ≤ W.heap.size →
      body.wpIn (F.inRound l) (n - 1 - 1) P (fun e _ W' => e = .normal ∧ KeepsOthers W W' ∧ Below B W W' ∧ I (pre ++ [x]) W') (a₁ x) W)
    (hdone : ∀ (D : Nat) (W : World), w.heap.size ≤ D → I xs W → Fin W → W.heap[D]? = some (.deferred (some [])) → Q .normal { a with defers := { target := .collected D, args := #[] } :: a.defers } W) :
    (Code.rangeFunc g ps assign body).wpIn F n P Q a w := by
  refine wpIn_rangeFunc ?_
  intro fn hfn
  rw [hro]
  obtain ⟨rec, hrec⟩ : ∃ rec : LoopState → Loop, rec = fun st => { state := st, pending := none, fn, tmps := a.tmps, params := ps, assign, body, defers := w.heap.size } := ⟨_, rfl⟩
  obtain ⟨W1, hW1⟩ : ∃ W1, (w.alloc (.deferred (some []))).alloc (.loop (rec .ready)) = W1 := ⟨_, rfl⟩
  have hL1 : W1.heap[w.heap.size + 1]? = some (.loop (rec .ready)) := by
    rw [← hW1]
    have := World.alloc_heap_new (w.alloc (.deferred (some []))) (.loop (rec .ready))
    rwa [World.size_alloc] at this
  have hK1 : W1.heap[w.heap.size]? = some (.deferred (some [])) := by
    rw [← hW1]; exact (Below.heap_alloc _ _ _ (by simp)).trans (World.alloc_heap_new w _)
  have hI1 : I [] W1 := by rw [← hW1]; exact hI.alloc _ (hI.alloc _ h0)
  have hbl : Below B w W1 := by rw [← hW1]; exact ((Below.refl _ _).alloc hB _).alloc (by simp; omega) _
  have hpb : ∀ (W : World) (l : Nat) (o : Obj), B ≤ l → Below B W (W.putObj l o) := fun W l o hl =>
    have hg := grownBy_putObj' W l o
    ⟨hg.os, hg.tape, hg.output, hg.size, fun k hk => World.putObj_heap_other (by omega)⟩
  refine ⟨w.heap.size + 1, [{ target := .collected w.heap.size, args := #[] }], W1, { target := .fn (.func gf) lb, args := #[.func (.yield (w.heap.size + 1)) #[] #[]] }, W1, gf,
    #[.func (.yield (w.heap.size + 1)) #[] #[]] ++ lb, W1, ?_, ?_, ?_, ?_, fun _ => h1, ?_⟩
  · rw [← hW1, hrec]; exact run_enterLoop_outer _ _ _ _ _
  · simp only [resolve, hg]
    simp [go_sem]
  · intro f' hf'; simp [Target.leads] at hf'; subst hf'; exact hFg
  · simp [invoke, go_sem, eg]
  · refine (hseq (w.heap.size + 1)
      (fun pre W => I pre W ∧ W.heap[w.heap.size + 1]? = some (.loop (rec .ready)) ∧ W.heap[w.heap.size]? = some (.deferred (some [])))
      W1 ?_ (Nat.le_trans hB hbl.size) ?_ (hInit _ _ hi hbl) ⟨hI1, hL1, hK1⟩).mono ?_
    · rintro s W W' ⟨hi, hl, hk⟩ hz
      exact ⟨hIz s W W' hi hz, (hz.block _ (by omega) (Array.getElem?_eq_some_iff.1 hl).1).trans hl, (hz.block _ hB (Array.getElem?_eq_some_iff.1 hk).1).trans hk⟩
    · rintro pre x W ⟨hi, hl, hk⟩ hBW hpre
      have hlt : w.heap.size + 1 < W.heap.size := (Array.getElem?_eq_some_iff.1 hl).1
      have hy := run_yield (P := P) (args := encs x) hl (by rw [hrec]; exact hps x)
      rw [hrec] at hy
      refine ⟨fn, _, assign, body, hy, roundIn_of_wpIn hfn (hassign _ x W _ ⟨_, run_beginRound hl (by rw [hrec]), ?_⟩)⟩
      have hl2 : (W.putObj (w.heap.size + 1) (.loop { rec .ready with state := .busy })).heap[w.heap.size + 1]? = some (.loop { rec .ready with state := .busy }) := World.putObj_heap_same hlt
      have hk2 : (W.putObj (w.heap.size + 1) (.loop { rec .ready with state := .busy })).heap[w.heap.size]? = some (.deferred (some [])) := (World.putObj_heap_other (by omega)).trans hk
      have hsz : w.heap.size + 2 ≤ (W.putObj (w.heap.size + 1) (.loop { rec .ready with state := .busy })).heap.size := by
        have := (Array.getElem?_eq_some_iff.1 hl2).1; omega
      refine wpIn_mono (hbody _ pre x _ (hI.putObj _ hi (by omega) hl rfl) hpre hsz) ?_
      rintro e a3 W3 ⟨rfl, hk3, hb3, hi3⟩
      have hl3 := hk3.same _ _ hl2 rfl
      have hr := run_endRound (P := P) none hl3
      rw [hrec] at hr
      rw [hrec] at hl3
      refine ⟨_, _, hr, rfl, ⟨hI.putObj _ hi3 (by omega) hl3 rfl, ?_, ?_⟩, ?_⟩
      · rw [hrec]; exact World.putObj_heap_same (Array.getElem?_eq_some_iff.1 hl3).1
      · exact (World.putObj_heap_other (by omega)).trans (hk3.same _ _ hk2 rfl)
      · exact ((hpb W _ _ (by omega)).trans hb3).trans (hpb W3 _ _ (by omega))
    · rintro e W2 ⟨⟨v, rfl⟩, ⟨hi, hl, hk⟩, hf, hs⟩
      exact ⟨none, _, by have := run_endLoop (P := P) hl (by rw [hrec]; simp); rw [hrec] at this; exact this, hdone _ _ (Nat.le_refl _) (hI.putObj _ hi (by omega) hl rfl) (hFin _ _ hf (hpb _ _ _ (by omega))) ((World.putObj_heap_other (by omega)).trans hk)⟩
end Go.Proofs.Ytjnceoohlcchnaa.Print

/-! The places at which something comes by. -/
namespace Go.Proofs.Ytjnceoohlcchnaa.Print
open Go Go.RowKit Go.Shelf Go.Deep Go.Proofs.YtjnceoohlcchnaaW.PrintWords Go.Proofs.YtjnceoohlcchnaaW.PrintLast Go.Proofs.YtjnceoohlcchnaaW.PrintMore
attribute [local go_sem] Oper.semAt_some

theorem size_set0 (w : World) (p : Addr) (u : Value) : w.heap.size ≤ (w.setCell p u).heap.size := by
  unfold World.setCell
  simp
/-- below block B, but for block gp, the world is as it was -/
structure LoBut (B gp : Nat) (w w' : World) : Prop where
  os : w'.os = w.os
  tape : w'.tape = w.tape
  output : w'.output = w.output
  size : w.heap.size ≤ w'.heap.size
  block : ∀ k, k < B → k ≠ gp → w'.heap[k]? = w.heap[k]?
theorem LoBut.of_below {B gp : Nat} {a b : World} (h : Below B a b) : LoBut B gp a b := ⟨h.os, h.tape, h.output, h.size, fun k hk _ => h.block k hk⟩
theorem LoBut.set (B gp : Nat) (w : World) (u : Value) : LoBut B gp w (w.setCell ⟨gp, 0, none⟩ u) := ⟨rfl, rfl, rfl, size_set0 _ _ _, fun k _ hne => Below.heap_setCell w ⟨gp, 0, none⟩ _ k hne⟩
/-- the places, one by one; nx: where it goes from a place, and whether it does -/
def stepsR {σ : Type} (nx : Int → σ → (Int × Bool) × σ) : Nat → Int → σ → List Int
  | 0, _, _ => []
  | f + 1, p, s => p :: if (nx p s).1.2 = true then stepsR nx f (nx p s).1.1 (nx p s).2 else []
def stepsE {σ : Type} (nx : Int → σ → (Int × Bool) × σ) : Nat → Int → σ → σ
  | 0, _, s => s
  | f + 1, p, s => if (nx p s).1.2 = true then stepsE nx f (nx p s).1.1 (nx p s).2 else (nx p s).2
set_option maxRecDepth 100000 in
set_option maxHeartbeats 4000000 in
theorem steps1_seq {σ : Type} (Fn : Nat) (caps : Array Value) (eg : ∀ args w, (callFunc Fn args).run Try.prog w = .ok (.enter Fn args) w) (gp gn B : Nat) (hgpB : gp < B)
    (nx : Int → σ → (Int × Bool) × σ) (Rep : σ → World → Prop) (Good : Int → σ → Prop) (μ : σ → Nat) (ν : World → Nat) (hν : ∀ s W, Rep s W → ν W = μ s)
    (hdep : ∀ s W W', Rep s W → LoBut B gp W W' → Rep s W')
    (hgn : ∀ s W, Rep s W → W.heap[gn]? = some (.cells #[.func (.func Fn) #[] caps] 95 (0, 0)))
    (hc : ∀ p s W, Good p s → Rep s W → B ≤ W.heap.size → Calls Try.prog Fn (#[.int .i64 p] ++ caps) W fun e W' => e = .returned (.tuple #[.int .i64 (nx p s).1.1, .bool (nx p s).1.2]) ∧ Rep (nx p s).2 W' ∧ KeepHi B W W' ∧ W'.heap[gp]? = W.heap[gp]?)
    (hg : ∀ p s, Good p s → (nx p s).1.2 = true → Good (nx p s).1.1 (nx p s).2 ∧ μ (nx p s).2 < μ s) (p0 : Int) (s0 : σ) (hG0 : Good p0 s0) :
    SeqZ Fence.wide 2 Try.prog 95 #[.pointer (some ⟨gp, 0, none⟩), .pointer (some ⟨gn, 0, none⟩)] (fun x => #[.int .i64 x]) B
      (fun W => W.heap[gp]? = some (.cells #[.int .i64 p0] 3 (0, 0)) ∧ Rep s0 W) (fun W => Rep (stepsE nx (μ s0 + 1) p0 s0) W) (stepsR nx (μ s0 + 1) p0 s0) := by
  obtain ⟨T, hT⟩ : ∃ T, T = stepsR nx (μ s0 + 1) p0 s0 := ⟨_, rfl⟩
  obtain ⟨TE, hTE⟩ : ∃ T, T = stepsE nx (μ s0 + 1) p0 s0 := ⟨_, rfl⟩
  rw [← hT, ← hTE]
  have HT := Aside0.mk (And.intro hT hTE)
  clear hT hTE
  intro l J W hZ hBW hY hi h0
  have HZ := Aside0.mk hZ
  have HY := Aside0.mk hY
  have HC := Aside0.mk hc
  have HD := Aside0.mk hdep
  have HGN := Aside0.mk hgn
  have HG := Aside0.mk hg
  clear hZ hY hc hdep hgn hg
  refine callsIn_of_wp Try.func95 rfl trivial ?_ rfl
  simp only [Try.ntmps95, List.size_toArray, List.length_cons, List.length_nil, Nat.reduceAdd, Nat.reduceSub, Array.replicate_succ, Array.replicate_zero, List.push_toArray, List.append_toArray, List.nil_append, List.cons_append]
  gi_wp2
  have HNU := Aside0.mk hν
  obtain ⟨hi1, hi2⟩ := hi
  clear hν
  gi_loopw [4] (fun _ wr => ∃ (p : Int) (s : σ) (f : Nat) (pre : List Int), Aside0 (wr.heap[gp]? = some (.cells #[.int .i64 p] 3 (0, 0))) ∧ Aside0 (Rep s wr) ∧ Aside0 (Good p s) ∧ Aside0 (J pre wr) ∧ Aside0 (B ≤ wr.heap.size) ∧ Aside0 (μ s < f) ∧ Aside0 (T = pre ++ stepsR nx f p s) ∧ Aside0 (TE = stepsE nx f p s)) (fun _ wr => ν wr)
  case atStart => exact ⟨p0, s0, _, [], ⟨hi1⟩, ⟨hi2⟩, ⟨hG0⟩, ⟨h0⟩, ⟨hBW⟩, ⟨Nat.lt_succ_self _⟩, ⟨HT.out.1⟩, ⟨HT.out.2⟩⟩
  case round =>
    obtain ⟨p, s, f, pre, HP, HR, HGD, HJ, HBS, HF, HE, HEE⟩ := hrel
    clear hi1 hi2 hBW h0 hG0
    have hf := HF.out
    obtain ⟨f, rfl⟩ : ∃ g, f = g + 1 := ⟨f - 1, by omega⟩
    have hE := HE.out
    rw [stepsR] at hE
    have hEE := HEE.out
    rw [stepsE] at hEE
    have c0 := blk_cell HP.out 0
    simp at c0
    obtain ⟨fn, tmps, assign, body, hy, hR⟩ := HY.out pre p wr HJ.out HBS.out ⟨_, by rw [hE, List.append_assoc]; rfl⟩
    have HE2 := Aside0.mk hE
    have HEE2 := Aside0.mk hEE
    clear hE hEE hf HE HEE
    gi_wp2
    refine hR.mono ?_
    rintro e W3 ⟨rfl, hJ3, hb3⟩
    have HP3 : Aside0 (W3.heap[gp]? = some (.cells #[.int .i64 p] 3 (0, 0))) := ⟨(hb3.block gp hgpB).trans HP.out⟩
    have HR3 := Aside0.mk (HD.out s wr W3 HR.out (.of_below hb3))
    have HJ3 := Aside0.mk hJ3
    have HBS3 : Aside0 (B ≤ W3.heap.size) := ⟨Nat.le_trans HBS.out hb3.size⟩
    have HG3 := Aside0.mk (HGN.out s W3 HR3.out)
    have c3 := blk_cell HP3.out 0
    have c4 := blk_cell HG3.out 0
    simp at c3 c4
    clear hJ3 hb3 hy hR c0
    gi_wp2
    refine ⟨trivial, ?_⟩
    refine CallsIn.mono (callsIn_wide.2 (HC.out p s W3 HGD.out HR3.out HBS3.out)) ?_
    rintro e W4 ⟨rfl, hR4, hH4, hP4⟩
    have HR4 := Aside0.mk hR4
    have HJ4 := Aside0.mk (HZ.out _ _ _ HJ3.out hH4)
    have HP4 := Aside0.mk (hP4.trans HP3.out)
    have HBS4 : Aside0 (B ≤ W4.heap.size) := ⟨Nat.le_trans HBS3.out hH4.size⟩
    obtain ⟨too, hto⟩ : ∃ t, t = (nx p s).1.1 := ⟨_, rfl⟩
    obtain ⟨goes, hgoes⟩ : ∃ t, t = (nx p s).1.2 := ⟨_, rfl⟩
    obtain ⟨s', hs'⟩ : ∃ t, t = (nx p s).2 := ⟨_, rfl⟩
    have hG := HG.out p s HGD.out
    rw [← hto, ← hgoes, ← hs'] at HE2 HEE2 hG
    rw [← hs'] at HR4
    rw [← hto, ← hgoes]
    have HG2 := Aside0.mk hG
    clear hR4 hH4 hP4 hto hgoes hs' hG c3 c4
    cases goes with
    | false =>
      gi_wp2
      go_returns
      refine ⟨⟨_, rfl⟩, ?_, ?_, HBS4.out⟩
      · have h := HE2.out
        rw [if_neg (by simp)] at h
        rw [h]
        exact HJ4.out
      · have h := HEE2.out
        rw [if_neg (by simp)] at h
        rw [h]
        exact HR4.out
    | true =>
      have c4 := blk_cell HP4.out 0
      simp at c4
      have f4 := blk_frozen HP4.out 0
      gi_wp2
      obtain ⟨hg1, hg2⟩ := HG2.out trivial
      have hR5 := HD.out s' W4 (W4.setCell ⟨gp, 0, none⟩ (.int .i64 too)) HR4.out (.set _ _ _ _)
      go_roundw
      case measure =>
        have h1 := HNU.out _ _ hR5
        have h2 := HNU.out _ _ HR.out
        omega
      case rel =>
        refine ⟨too, s', f, pre ++ [p], ⟨?_⟩, ⟨hR5⟩, ⟨hg1⟩, ⟨HZ.out _ _ _ HJ4.out ((KeepHi.refl _ _).set hgpB _)⟩, ⟨Nat.le_trans HBS4.out (size_set0 _ _ _)⟩, ⟨by have h := HF.out; omega⟩, ⟨?_⟩, ⟨?_⟩⟩
        · have h := blk_set HP4.out 0 (.int .i64 too)
          simpa using h
        · have h := HE2.out
          rw [if_pos trivial] at h
          rw [h, List.append_assoc]
          rfl
        · have h := HEE2.out
          rw [if_pos trivial] at h
          exact h
end Go.Proofs.Ytjnceoohlcchnaa.Print

/-! A sequence collected. -/
namespace Go.Proofs.Ytjnceoohlcchnaa.Print
open Go Go.RowKit Go.Shelf Go.Deep Go.Proofs.YtjnceoohlcchnaaW.PrintWords Go.Proofs.YtjnceoohlcchnaaW.PrintLast Go.Proofs.YtjnceoohlcchnaaW.PrintMore
attribute [local go_sem] Oper.semAt_some

theorem listIn_append {n l : Nat} {P : Program} {ops : Array Oper} {rest : List Oper} {o : Oper} {a : Act} {Q : Exit → Act → World → Prop} {w w' : World} {v : Value} (hg : o.guard = none) (s x : Operand) (t : TypeId) (v1 v2 : Value)
    (hop : o.op = Op.call { callee := Callee.builtin Builtin.append, args := #[s, x], argTypes := #[t, t] }) (hs : a.eval s = v1) (hx : a.eval x = v2) (hrun : (Builtin.append_ #[t, t] o.type #[v1, v2]).run P w = .ok v w')
    (h : wpListIn (Fence.wide.inRound l) n P ops Q rest (a.put o.dst v) w') : wpListIn (Fence.wide.inRound l) n P ops Q (o :: rest) a w := by
  have hw : Region.wanted o (yielded ops a.tmps) = true := by simp [Region.wanted, hg]
  show (if Region.wanted o (yielded ops a.tmps) then _ else _)
  rw [if_pos hw]
  have e : (o.semAt (some l) a.eval).run P w = .ok (.value v) w' := by
    rw [Oper.semAt_some l _ _ (fun c hc => by rw [hop] at hc; cases hc)]
    simp [execOp, hop, resolve, invoke, builtin, hs, hx, hrun, Result.andThen]
  refine ⟨fun _ _ => trivial, ?_⟩
  rw [Fence.inRound_round, e]
  exact h
theorem R_obj {α : Type} {d : Kd α} {e : Nat} {w w1 : World} {base : Nat} {ok : Nat → Prop} {v : Value} {xs : List α} (h : d.R e w base ok v xs) {row : Option Nat} (hg : w.grownBy w1 row) (hr : ∀ r, row = some r → ∃ o : Obj, w.heap[r]? = some o ∧ o.isCells = false) : d.R e w1 base ok v xs :=
  Kd.R_mono (Kd.R_grown (Kd.R_bound h) hg (fun k hk he => by
    obtain ⟨_, _, _, q, _, cells, hc⟩ := hk
    obtain ⟨o, ho, hi⟩ := hr k he.symm
    rw [hc] at ho
    cases ho
    cases hi)) (fun _ hk => hk.1)
/-- a number appended to a row of one's own -/
theorem append_int {W : World} {base : Nat} {v : Value} {xs : List Int} (x : Int) (ty : TypeId) (h : Kd.R (Kd.int .i64) 3 W base (fun _ => True) v xs) (hb : base ≤ W.heap.size) (hl : xs.length ≤ 17592186044400) :
    ∃ v' w', (Builtin.append_ #[39, 39] ty #[v, .slice (some ⟨W.heap.size, 0, none⟩) 1 1]).run Try.prog (W.alloc (.cells #[.int .i64 x] 3)) = .ok v' w' ∧
      Kd.R (Kd.int .i64) 3 w' base (fun _ => True) v' (xs ++ [x]) ∧ (W.alloc (.cells #[.int .i64 x] 3)).grownBy w' v.ownBlock := by
  obtain ⟨i0, hi, hz0, hz1, hz2⟩ := info_parts info3
  have hnews : ∀ j u, ([Value.int .i64 x] : List Value)[j]? = some u → (W.alloc (.cells #[.int .i64 x] 3)).cell? ((⟨W.heap.size, 0, none⟩ : Addr).add j) = some u := by
    intro j u hj
    have hc := blk_cell (heap_alloc_new W (.cells #[.int .i64 x] 3)) 0
    match j with
    | 0 => simp at hj; subst hj; first | exact hc | simp [Addr.add]
    | j + 1 => simp at hj
  have ho := Kd.own_of_R (enc := Value.int .i64) (Kd.R_below h (below_alloc (Below.refl _ _) (.cells #[.int .i64 x] 3)))
  obtain ⟨v', w', hrun, ho2, hg, _⟩ := run_append_own (P := Try.prog) (W.alloc (.cells #[.int .i64 x] 3)) base 39 ty 3 i0 (.int .i64 0) 1 8 Try.underlying39 hi hz0 hz1 hz2 rfl (by decide) v xs.length _ ho ⟨W.heap.size, 0, none⟩ 1 1 [.int .i64 x] rfl hnews (by simp [Value.oneCell']) (by unfold maxLen; omega) (by omega) (by simp; omega)
  refine ⟨v', w', hrun, Kd.R_of_own (enc := Value.int .i64) ?_ (fun _ _ => trivial), hg⟩
  have e : encs (Value.int .i64) (xs ++ [x]) = encs (Value.int .i64) xs ++ [.int .i64 x] := by simp [encs]
  rw [e, List.length_append]
  exact ho2
theorem keep_grown {B : Nat} {w W W' : World} {row : Option Nat} (h : KeepHi B w W) (hg : W.grownBy W' row) (hr : ∀ r, row = some r → w.heap.size ≤ r) : KeepHi B w W' :=
  ⟨hg.os.trans h.os, hg.tape.trans h.tape, hg.output.trans h.output, Nat.le_trans h.size hg.size, fun k hk hl => (hg.block k (Nat.lt_of_lt_of_le hl h.size) (fun e => by have := hr _ e.symm; omega)).trans (h.block k hk hl)⟩
/-- what stands behind some rounds -/
structure AppI (B : Nat) (w : World) (pre : List Int) (W : World) : Prop where
  out : ∃ v, W.heap[w.heap.size]? = some (.cells #[v] 39 (0, 0)) ∧ Kd.R (Kd.int .i64) 3 W w.heap.size (fun _ => True) v pre
  keep : KeepHi B w W
theorem AppI.zone {B : Nat} {w W W' : World} {pre : List Int} (hB : B ≤ w.heap.size) (h : AppI B w pre W) (hz : KeepHi B W W') : AppI B w pre W' := by
  obtain ⟨v, hv, hR⟩ := h.out
  exact ⟨⟨v, (hz.block _ hB (blk_lt hv)).trans hv, Kd.R_mono (Kd.R_step (Kd.R_bound hR) (fun k hk hlt => hz.block k (Nat.le_trans hB hk.2.1) hlt)) (fun _ _ => trivial)⟩, h.keep.trans hz⟩
theorem AppI.own {B N : Nat} {w : World} (hN : w.heap.size < N) : OwnFrom N (AppI B w) := fun pre W W' row h hg hr => by
  obtain ⟨v, hv, hR⟩ := h.out
  refine ⟨⟨v, ?_, R_obj hR hg (fun r e => (hr r e).2)⟩, ?_⟩
  · refine (hg.block _ (blk_lt hv) (fun e => ?_)).trans hv
    have := (hr _ e.symm).1
    omega
  · exact ⟨hg.os.trans h.keep.os, hg.tape.trans h.keep.tape, hg.output.trans h.keep.output, Nat.le_trans h.keep.size hg.size, fun k hk hl => (hg.block k (Nat.lt_of_lt_of_le hl h.keep.size) (fun e => by have := (hr _ e.symm).1; omega)).trans (h.keep.block k hk hl)⟩
theorem AppI.below {B : Nat} {w W W' : World} {pre : List Int} (h : AppI B w pre W) (hb : Below W.heap.size W W') : AppI B w pre W' := by
  obtain ⟨v, hv, hR⟩ := h.out
  exact ⟨⟨v, blk_below hv hb, Kd.R_below hR hb⟩, h.keep.trans (.of_below hb)⟩
set_option maxRecDepth 100000 in
set_option maxHeartbeats 4000000 in
theorem append_seq (gf : Nat) (lb : Array Value) (eg : ∀ args w, (callFunc gf args).run Try.prog w = .ok (.enter gf args) w) (B : Nat) (Init Fin : World → Prop) (xs : List Int) (hseq : SeqZ Fence.wide 2 Try.prog gf lb (fun x => #[.int .i64 x]) B Init Fin xs)
    (hxs : xs.length ≤ 17592186044400) (w : World) (hB : B ≤ w.heap.size) (hInit : ∀ W W', Init W → Below B W W' → Init W') (hFin : ∀ W W', Fin W → Below B W W' → Fin W') (hi : Init w) :
    Calls Try.prog 94 #[.slice none 0 0, .func (.func gf) #[] lb] w fun e w' => ∃ v, e = .returned v ∧ Kd.R (Kd.int .i64) 3 w' w.heap.size (fun _ => True) v xs ∧ Fin w' ∧ KeepHi B w w' := by
  refine (callsIn_wide (n := 3)).1 ?_
  refine callsIn_of_wp_marks Try.func94 rfl trivial ?_ rfl
  simp only [Try.ntmps94, List.size_toArray, List.length_cons, List.length_nil, Nat.reduceAdd, Nat.reduceSub, Array.replicate_succ, Array.replicate_zero, List.push_toArray, List.append_toArray, List.nil_append, List.cons_append]
  gi_wp2
  obtain ⟨w1, hw1⟩ : ∃ w1, w1 = w.alloc (Obj.cells #[Value.slice none 0 0] 39) := ⟨_, rfl⟩
  obtain ⟨gb, hgb⟩ : ∃ g, g = w.heap.size := ⟨_, rfl⟩
  rw [← hw1, ← hgb]
  have hz1 : w1.heap.size = w.heap.size + 1 := by rw [hw1]; simp
  have hb1 : Below w.heap.size w w1 := by rw [hw1]; exact below_alloc (Below.refl _ _) _
  have hA : AppI B w [] w1 := ⟨⟨.slice none 0 0, by rw [hw1]; exact heap_alloc_new _ _, Kd.R_nil _ _ _ _ _⟩, .of_below hb1⟩
  refine wpIn_rangeFunc_zone rfl (by omega) (gf := gf) (lb := lb) rfl trivial eg hseq (Nat.le_trans hB hb1.size) hInit hFin (hInit _ _ hi (hb1.mono hB)) (fun _ => rfl)
    (AppI B w) (AppI.own (by rw [hz1]; exact Nat.lt_succ_self _)) (fun s W W' h hz => h.zone hB hz) hA
    (fun x => { tmps := #[.slice none 0 0, .func (.func gf) #[] lb, .pointer (some ⟨gb, 0, none⟩), undef, .slice none 0 0, .int .i64 x, .func (.func gf) #[] lb, .int .i64 x, undef, undef, undef, undef, undef], defers := [] }) ?tas ?tbo ?tdn
  case tas =>
    intro l0 x W K hK
    clear hgb
    gi_wp2
    exact hK
  case tbo =>
    rintro l0 pre x W hI hpre hsz
    have hlen : pre.length ≤ 17592186044400 := by
      obtain ⟨r, hr⟩ := hpre
      have := congrArg List.length hr
      simp at this
      omega
    obtain ⟨v, hv, hR⟩ := hI.out
    rw [← hgb] at hv
    have hbs : w.heap.size ≤ W.heap.size := hI.keep.size
    obtain ⟨v', w', hrun, hR', hg'⟩ := append_int x 39 hR hbs hlen
    obtain ⟨Av, cv, rfl⟩ := Kd.R_slice hR'
    obtain ⟨Au, cu, rfl⟩ := Kd.R_slice hR
    have HI := Aside0.mk hI
    have HG := Aside0.mk hgb
    have HBB := Aside0.mk hB
    have HBLK : Aside0 (w'.heap[gb]? = some (.cells #[.slice Au pre.length cu] 39 (0, 0))) := ⟨by
      have h1 : (W.alloc (Obj.cells #[Value.int IntKind.i64 x] 3)).heap[gb]? = some (.cells #[.slice Au pre.length cu] 39 (0, 0)) := blk_alloc hv _
      refine (hg'.block gb (blk_lt h1) (fun e => ?_)).trans h1
      obtain ⟨cs, hc⟩ := Kd.R_typed hR gb e.symm
      rw [hv] at hc
      cases hc⟩
    have HR' := Aside0.mk hR'
    have hbl : Below gb W w' := ((Below.refl gb W).alloc (by omega) _).grown hg' (by simp; omega) (fun k hk => by
      have := Kd.R_base hR k hk
      omega)
    have HBL := Aside0.mk hbl
    have HRUN := Aside0.mk hrun
    have HKO : Aside0 (KeepsOthers W w') := ⟨by
      refine (KeepsOthers.alloc W _).trans (KeepsOthers.of_grownBy hg' fun j o ej hj => ?_)
      obtain ⟨cs, hc⟩ := Kd.R_typed hR j ej
      have hc2 := blk_alloc hc (Obj.cells #[Value.int IntKind.i64 x] 3)
      rw [hc2] at hj
      cases hj
      rfl⟩
    clear hI hgb hw1 hR hR' hg' hbl hrun hpre hA
    have c0 := blk_cell hv 0
    simp at c0
    have c1 := blk_cell HBLK.out 0
    have f1 := blk_frozen HBLK.out 0
    simp at c1
    gi_wp2_with (gi_at_builtin; refine listIn_append rfl (.tmp 8) (.tmp 10) 39 _ _ rfl rfl rfl HRUN.out ?_)
    have hgB : B ≤ gb := by have h1 := HG.out; have h2 := HBB.out; omega
    have hb2 : Below gb W (w'.setCell ⟨gb, 0, none⟩ (.slice Av (pre ++ [x]).length cv)) := HBL.out.setCell (Nat.le_refl _) _
    refine ⟨HKO.out.trans (KeepsOthers.setCell _ _ _), (HBL.out.mono hgB).setCell hgB _, ⟨⟨.slice Av (pre ++ [x]).length cv, ?_, ?_⟩, ?_⟩⟩
    · have h := blk_set HBLK.out 0 (.slice Av (pre ++ [x]).length cv)
      rw [← HG.out]
      simpa using h
    · have h := Kd.R_far (p := ⟨gb, 0, none⟩) (Kd.R_types HR'.out HBLK.out (by decide)) (fun _ hk => hk.2) (.slice Av (pre ++ [x]).length cv)
      have h2 := Kd.R_mono h (ok' := fun _ => True) (fun _ _ => trivial)
      simpa using h2
    · have hk := HI.out.keep
      have h2 := HG.out
      have h3 : KeepHi B w (w'.setCell ⟨gb, 0, none⟩ (.slice Av (pre ++ [x]).length cv)) := ⟨hb2.os.trans hk.os, hb2.tape.trans hk.tape, hb2.output.trans hk.output, Nat.le_trans hk.size hb2.size, fun k hk1 hl => (hb2.block k (by omega)).trans (hk.block k hk1 hl)⟩
      simpa using h3
  case tdn =>
    intro D W hD hI hF hK
    obtain ⟨v, hv, hR⟩ := hI.out
    obtain ⟨Au, cu, rfl⟩ := Kd.R_slice hR
    rw [← hgb] at hv
    have HV := Aside0.mk hv
    have HR := Aside0.mk hR
    have HI := Aside0.mk hI
    have HF := Aside0.mk hF
    have HK := Aside0.mk hK
    have c0 := blk_cell hv 0
    simp at c0
    have hsz := hz1
    have HH := Aside0.mk (And.intro hB (And.intro hD hsz))
    clear hv hR hI hF hK hgb hw1 hz1 hb1 hA hB hD hsz
    gi_wp2
    refine ⟨by simp, .inl ⟨_, _, rfl, run_takeDeferred HK.out, ?_⟩⟩
    have hr2 : ∀ r, some D = some r → ∃ o : Obj, W.heap[r]? = some o ∧ o.isCells = false := fun r e => by cases e; exact ⟨_, HK.out, rfl⟩
    obtain ⟨h1, h2, h3⟩ := HH.out
    refine ⟨.slice Au xs.length cu, by simp [results, Try.results94, go_sem], .slice Au xs.length cu, rfl, R_obj HR.out (grownBy_putObj' _ _ _) hr2, ?_, ?_⟩
    · refine hFin _ _ HF.out ?_
      exact (Below.refl B W).grown (grownBy_putObj' _ _ _) (by have := HI.out.keep.size; omega) (fun k e => by cases e; omega)
    · exact keep_grown HI.out.keep (grownBy_putObj' _ _ _) (fun r e => by cases e; omega)
end Go.Proofs.Ytjnceoohlcchnaa.Print

/-! The rule that follows hints. -/
namespace Go.Proofs.Ytjnceoohlcchnaa.Print
open Go Go.RowKit Go.Deep Go.Proofs.YtjnceoohlcchnaaW.PrintWords Go.Proofs.YtjnceoohlcchnaaW.PrintLast Go.Proofs.YtjnceoohlcchnaaW.PrintMore

/-- where a hint leads from a place, if it is newer -/
def nxH (l : List S36) (oid p t : Int) : (Int × Bool) × Int :=
  if atB (postA l p).f1 oid = true then ((0, false), t)
  else if (atB (postA l p).f2 oid && decide (t < (lookL (postA l p).f2 oid).f2)) = true then (((lookL (postA l p).f2 oid).f1, true), (lookL (postA l p).f2 oid).f2)
  else ((0, false), t)
def afterH (g : Nat) (r : (Int × Bool) × Int) (w : World) : World := if r.1.2 = true then w.setCell ⟨g, 0, none⟩ (.int .i64 r.2) else w
set_option maxRecDepth 100000 in
set_option maxHeartbeats 8000000 in
theorem hints1_any (B : Option Addr) (cb : Nat) (l : List S36) (oid : Int) (i : Nat) (t : Int) (gm go gt : Nat) (w : World) (hi : i < l.length) (hm : w.cell? ⟨gm, 0, none⟩ = some (.slice B l.length cb)) (ho : w.cell? ⟨go, 0, none⟩ = some (.int .i64 oid)) (ht : w.heap[gt]? = some (.cells #[.int .i64 t] 3 (0, 0)))
    (hr : Kd.C k36 w B l.length l) (hl : Short l) :
    Calls Try.prog 105 #[.int .i64 (i : Int), .pointer (some ⟨gm, 0, none⟩), .pointer (some ⟨go, 0, none⟩), .pointer (some ⟨gt, 0, none⟩)] w fun e w' =>
      e = .returned (.tuple #[.int .i64 (nxH l oid i t).1.1, .bool (nxH l oid i t).1.2]) ∧ ∃ w1, Below w.heap.size w w1 ∧ w' = afterH gt (nxH l oid i t) w1 := by
  have HR := Aside0.mk hr
  have HS := Aside0.mk hl
  have hl6 := hl.1
  obtain ⟨ad, x, A1, c1, A2, c2, hB, hx, p0, p1, p2, hc1, hC1, hc2, hC2⟩ := post_at hr i hi
  subst hB
  have HX := Aside0.mk hx
  have HC1 := Aside0.mk hC1
  have HC2 := Aside0.mk hC2
  have HT := Aside0.mk ht
  have HV : Aside0 (nxH l oid i t = if atB x.f1 oid = true then ((0, false), t) else if (atB x.f2 oid && decide (t < (lookL x.f2 oid).f2)) = true then (((lookL x.f2 oid).f1, true), (lookL x.f2 oid).f2) else ((0, false), t)) := ⟨by unfold nxH; rw [postA_some hx]⟩
  have hs := hl.2 x (List.mem_of_getElem? hx)
  have hs1 := hs.1
  have hs2 := hs.2
  have hgm := World.block_lt_of_cell? w _ hm
  have hgo := World.block_lt_of_cell? w _ ho
  have hpb := World.block_lt_of_cell? w _ p0
  have HSB : Aside0 (∀ w', Below w.heap.size w w' → (w'.cell? ⟨gm, 0, none⟩ = some (.slice (some ad) l.length cb) ∧ w'.cell? ⟨go, 0, none⟩ = some (.int .i64 oid) ∧ w'.cell? (ad.add (i * 3)) = some (.bool x.f0) ∧ w'.cell? ⟨(ad.add (i * 3)).block, (ad.add (i * 3)).off + 1, none⟩ = some (.slice A1 x.f1.length c1) ∧ w'.cell? ⟨(ad.add (i * 3)).block, (ad.add (i * 3)).off + 2, none⟩ = some (.slice A2 x.f2.length c2) ∧ Below w.heap.size w w')) :=
    ⟨fun w' hb => ⟨(hb.cell hgm).trans hm, (hb.cell hgo).trans ho, (hb.cell hpb).trans p0, (hb.cell (p := ⟨(ad.add (i * 3)).block, (ad.add (i * 3)).off + 1, none⟩) hpb).trans p1, (hb.cell (p := ⟨(ad.add (i * 3)).block, (ad.add (i * 3)).off + 2, none⟩) hpb).trans p2, hb⟩⟩
  clear hgm hgo hpb hr hl hx hC1 hC2 hs hm ho p0 p1 p2 ht
  have hu := Try.underlying81
  have hlt : decide (i < l.length) = true := decide_eq_true hi
  go_enter Try.func105, Try.ntmps105
  go_upto_region 1 with fail
  go_cut [7, 8] (fun u7 u8 wx => u8 = .bool (atB x.f1 oid) ∧ ∃ gh, u7 = .pointer (some ⟨gh, 0, none⟩) ∧ Aside0 (Below w.heap.size w wx))
  case first =>
    go_region_held3 (fun w' => w'.cell? ⟨gm, 0, none⟩ = some (.slice (some ad) l.length cb) ∧ w'.cell? ⟨go, 0, none⟩ = some (.int .i64 oid) ∧ w'.cell? (ad.add (i * 3)) = some (.bool x.f0) ∧ w'.cell? ⟨(ad.add (i * 3)).block, (ad.add (i * 3)).off + 1, none⟩ = some (.slice A1 x.f1.length c1) ∧ w'.cell? ⟨(ad.add (i * 3)).block, (ad.add (i * 3)).off + 2, none⟩ = some (.slice A2 x.f2.length c2) ∧ Below w.heap.size w w') (exact HSB.out _ (by repeat (first | exact Below.refl _ _ | exact HB2.out | refine below_drew ?_ | refine below_alloc ?_ _ | refine below_set ?_ (by first | exact Nat.le_refl _ | exact HB2.out.size)))) (first | (go_at_call 66; refine (has_any x.f0 A1 x.f1.length c1 A2 x.f2.length c2 x.f1 oid _ rfl (Kd.C_below HC1.out (by repeat (first | exact Below.refl _ _ | refine below_drew ?_ | refine below_alloc ?_ _))) hc1 hs1).mono ?_; rintro e w2 ⟨rfl, hB⟩; have HB2 : Aside0 (Below w.heap.size w w2) := ⟨below_step (by repeat (first | exact Below.refl _ _ | refine below_drew ?_ | refine below_alloc ?_ _)) hB⟩; (try (have HN : Aside0 (w2.heap[w.heap.size]? = some (.cells #[.int .i64 0, .int .i64 0, .int .i64 0] 31 (0, 0))) := ⟨blk_below (heap_alloc_new w.drew _) hB⟩; obtain ⟨n0, n1, n2, g0, g1, g2⟩ := blk3 HN.out)); clear hB; unfold hintV))
    all_goals
      go_wp2_with fail
      go_meet
      case rel => exact ⟨rfl, _, rfl, ⟨by first | exact HB2.out | exact below_alloc HB2.out _ | exact below_store3 HB2.out (Nat.le_refl _) _ _ _⟩⟩
  case rest =>
    obtain ⟨rfl, gh, rfl, HBC⟩ := hcut
    by_cases hb : atB x.f1 oid = true
    · have HV2 : Aside0 (nxH l oid i t = ((0, false), t)) := ⟨by rw [HV.out, if_pos hb]⟩
      rw [hb]
      clear hb HV
      go_wp2_with fail
      go_returns
      exact ⟨by rw [HV2.out]; rfl, _, HBC.out, by rw [HV2.out]; rfl⟩
    have HV1 : Aside0 (nxH l oid i t = if (atB x.f2 oid && decide (t < (lookL x.f2 oid).f2)) = true then (((lookL x.f2 oid).f1, true), (lookL x.f2 oid).f2) else ((0, false), t)) := ⟨by rw [HV.out, if_neg hb]⟩
    have hb2 : atB x.f1 oid = false := by simpa using hb
    rw [hb2]
    clear hb hb2 HV
    go_upto_region 4 with fail
    go_cut [9, 10] (fun u9 u10 wx => u10 = .bool (atB x.f2 oid) ∧ ∃ gh, u9 = .pointer (some ⟨gh, 0, none⟩) ∧ Aside0 (Below wc.heap.size wc wx) ∧ Aside0 (wx.heap[gh]? = some (.cells #[.int .i64 (lookL x.f2 oid).f0, .int .i64 (lookL x.f2 oid).f1, .int .i64 (lookL x.f2 oid).f2] 31 (0, 0))))
    case first =>
      have HSD : Aside0 (∀ w', Below wc.heap.size wc w' → (w'.cell? ⟨gm, 0, none⟩ = some (.slice (some ad) l.length cb) ∧ w'.cell? ⟨go, 0, none⟩ = some (.int .i64 oid) ∧ w'.cell? (ad.add (i * 3)) = some (.bool x.f0) ∧ w'.cell? ⟨(ad.add (i * 3)).block, (ad.add (i * 3)).off + 1, none⟩ = some (.slice A1 x.f1.length c1) ∧ w'.cell? ⟨(ad.add (i * 3)).block, (ad.add (i * 3)).off + 2, none⟩ = some (.slice A2 x.f2.length c2) ∧ Below wc.heap.size wc w')) :=
        ⟨fun w' hb => by obtain ⟨a, b, c, d, e, f⟩ := HSB.out w' (below_step HBC.out hb); exact ⟨a, b, c, d, e, hb⟩⟩
      go_region_held3 (fun w' => w'.cell? ⟨gm, 0, none⟩ = some (.slice (some ad) l.length cb) ∧ w'.cell? ⟨go, 0, none⟩ = some (.int .i64 oid) ∧ w'.cell? (ad.add (i * 3)) = some (.bool x.f0) ∧ w'.cell? ⟨(ad.add (i * 3)).block, (ad.add (i * 3)).off + 1, none⟩ = some (.slice A1 x.f1.length c1) ∧ w'.cell? ⟨(ad.add (i * 3)).block, (ad.add (i * 3)).off + 2, none⟩ = some (.slice A2 x.f2.length c2) ∧ Below wc.heap.size wc w') (exact HSD.out _ (by repeat (first | exact Below.refl _ _ | exact HB2.out | refine below_drew ?_ | refine below_alloc ?_ _ | refine below_set ?_ (by first | exact Nat.le_refl _ | exact HB2.out.size)))) (first | (go_at_call 69; refine (hint_any x.f0 A1 x.f1.length c1 A2 x.f2.length c2 x.f2 oid _ rfl (Kd.C_below HC2.out (below_step HBC.out (by repeat (first | exact Below.refl _ _ | refine below_drew ?_ | refine below_alloc ?_ _)))) hc2 hs2).mono ?_; rintro e w2 ⟨rfl, hB⟩; have HB2 : Aside0 (Below wc.heap.size wc w2) := ⟨below_step (by repeat (first | exact Below.refl _ _ | refine below_drew ?_ | refine below_alloc ?_ _)) hB⟩; (try (have HN : Aside0 (w2.heap[wc.heap.size]? = some (.cells #[.int .i64 0, .int .i64 0, .int .i64 0] 31 (0, 0))) := ⟨blk_below (heap_alloc_new wc.drew _) hB⟩; obtain ⟨n0, n1, n2, g0, g1, g2⟩ := blk3 HN.out)); clear hB; unfold hintV))
      all_goals
        go_wp2_with fail
        go_meet
        case rel => exact ⟨rfl, _, rfl, ⟨by first | exact HB2.out | exact below_alloc HB2.out _ | exact below_store3 HB2.out (Nat.le_refl _) _ _ _⟩, ⟨by first | exact blk_store3 HN.out _ _ _ | exact heap_alloc_new _ _⟩⟩
    case rest =>
      obtain ⟨rfl, gy, rfl, HBD, HNY⟩ := hcut
      have HBE := Aside0.mk (below_step HBC.out HBD.out)
      obtain ⟨y, hy⟩ : ∃ y, y = lookL x.f2 oid := ⟨_, rfl⟩
      obtain ⟨b, hb⟩ : ∃ b, b = atB x.f2 oid := ⟨_, rfl⟩
      rw [← hy] at HNY HV1
      rw [← hb] at HV1 ⊢
      obtain ⟨y0, y1, y2, _, _, _⟩ := blk3 HNY.out
      have HT2 := Aside0.mk (blk_below HT.out HBE.out)
      have k0 := blk_cell HT2.out 0
      have kf := blk_frozen HT2.out 0
      simp at k0
      have HNE : Aside0 (gt ≠ gy) := ⟨fun e => by
        have h1 := HT2.out
        rw [e, HNY.out] at h1
        cases h1⟩
      have hne := HNE.out
      clear hy hb
      cases b with
      | false =>
        have HV2 : Aside0 (nxH l oid i t = ((0, false), t)) := ⟨by rw [HV1.out]; rfl⟩
        clear HV1
        go_wp2_with fail
        go_returns
        exact ⟨by rw [HV2.out]; rfl, _, HBE.out, by rw [HV2.out]; rfl⟩
      | true =>
        by_cases ht : t < y.f2
        · have HV2 : Aside0 (nxH l oid i t = ((y.f1, true), y.f2)) := ⟨by rw [HV1.out, decide_eq_true ht]; rfl⟩
          have dt : decide (y.f2 ≤ t) = false := decide_eq_false (by omega)
          clear HV1 ht
          have y1' : ∀ u, (World.setCell ‹World› ⟨gt, 0, none⟩ u).cell? ⟨gy, 1, none⟩ = some (.int .i64 y.f1) := fun u => by
            have := blk_cell (blk_far HNY.out (p := ⟨gt, 0, none⟩) (Ne.symm HNE.out) u) 1
            simpa using this
          go_wp2_with fail
          go_returns
          exact ⟨by rw [HV2.out]; rfl, _, HBE.out, by rw [HV2.out]; rfl⟩
        · have HV2 : Aside0 (nxH l oid i t = ((0, false), t)) := ⟨by rw [HV1.out, decide_eq_false ht]; rfl⟩
          have dt : decide (y.f2 ≤ t) = true := decide_eq_true (by omega)
          clear HV1 ht
          go_wp2_with fail
          go_returns
          exact ⟨by rw [HV2.out]; rfl, _, HBE.out, by rw [HV2.out]; rfl⟩
end Go.Proofs.Ytjnceoohlcchnaa.Print

/-! Following hints. -/
namespace Go.Proofs.Ytjnceoohlcchnaa.Print
open Go Go.RowKit Go.Deep Go.Proofs.YtjnceoohlcchnaaW.PrintWords Go.Proofs.YtjnceoohlcchnaaW.PrintLast Go.Proofs.YtjnceoohlcchnaaW.PrintMore

theorem hints_any (B : Option Addr) (n cb : Nat) (oid : Int) (w : World) :
    Calls Try.prog 92 #[.slice B n cb, .int .i64 oid] w fun e w' => ∃ gm go gt, e = .returned (.func (.func 105) #[] #[.pointer (some ⟨gm, 0, none⟩), .pointer (some ⟨go, 0, none⟩), .pointer (some ⟨gt, 0, none⟩)]) ∧
      w'.heap[gm]? = some (.cells #[.slice B n cb] 74 (0, 0)) ∧ w'.heap[go]? = some (.cells #[.int .i64 oid] 3 (0, 0)) ∧ w'.heap[gt]? = some (.cells #[.int .i64 (-1)] 3 (0, 0)) ∧ w.heap.size ≤ gm ∧ w.heap.size ≤ go ∧ w.heap.size ≤ gt ∧ go ≠ gt ∧ Below w.heap.size w w' := by
  have hmf : ∀ (fn : Fn) (first cap : Array Value) (w : World), (Instr.makeFunc fn first cap).run Try.prog w = .ok (.func fn first cap) w := fun _ _ _ _ => rfl
  go_enter Try.func92, Try.ntmps92
  go_wp2_with fail
  go_returns
  refine ⟨_, _, _, rfl, ?_, ?_, ?_, Nat.le_refl _, by omega, by omega, by omega, below_alloc (below_alloc (below_alloc (Below.refl _ _) _) _) _⟩
  · exact blk_alloc (blk_alloc (heap_alloc_new _ _) _) _
  · have h := blk_alloc (heap_alloc_new (w.alloc (Obj.cells #[Value.slice B n cb] 74)) (Obj.cells #[Value.int IntKind.i64 oid] 3)) (Obj.cells #[Value.int IntKind.i64 (-1)] 3)
    simpa using h
  · have h := heap_alloc_new ((w.alloc (Obj.cells #[Value.slice B n cb] 74)).alloc (Obj.cells #[Value.int IntKind.i64 oid] 3)) (Obj.cells #[Value.int IntKind.i64 (-1)] 3)
    simpa using h
theorem steps_any (p : Int) (Fn : Nat) (caps : Array Value) (w : World) :
    Calls Try.prog 64 #[.int .i64 p, .func (.func Fn) #[] caps] w fun e w' => ∃ gp gn, e = .returned (.func (.func 95) #[] #[.pointer (some ⟨gp, 0, none⟩), .pointer (some ⟨gn, 0, none⟩)]) ∧
      w'.heap[gp]? = some (.cells #[.int .i64 p] 3 (0, 0)) ∧ w'.heap[gn]? = some (.cells #[.func (.func Fn) #[] caps] 95 (0, 0)) ∧ w.heap.size ≤ gp ∧ w.heap.size ≤ gn ∧ gp ≠ gn ∧ Below w.heap.size w w' := by
  have hmf : ∀ (fn : Go.Fn) (first cap : Array Value) (w : World), (Instr.makeFunc fn first cap).run Try.prog w = .ok (.func fn first cap) w := fun _ _ _ _ => rfl
  go_enter Try.func64, Try.ntmps64
  go_wp2_with fail
  go_returns
  refine ⟨_, _, rfl, ?_, ?_, Nat.le_refl _, by omega, by omega, below_alloc (below_alloc (Below.refl _ _) _) _⟩
  · exact blk_alloc (heap_alloc_new _ _) _
  · have h := heap_alloc_new (w.alloc (Obj.cells #[Value.int IntKind.i64 p] 3)) (Obj.cells #[Value.func (.func Fn) #[] caps] 95)
    simpa using h
theorem collect_any (gf : Nat) (lb : Array Value) (eg : ∀ args w, (callFunc gf args).run Try.prog w = .ok (.enter gf args) w) (B : Nat) (Init Fin : World → Prop) (xs : List Int) (hseq : SeqZ Fence.wide 2 Try.prog gf lb (fun x => #[.int .i64 x]) B Init Fin xs)
    (hxs : xs.length ≤ 17592186044400) (w : World) (hB : B ≤ w.heap.size) (hInit : ∀ W W', Init W → Below B W W' → Init W') (hFin : ∀ W W', Fin W → Below B W W' → Fin W') (hi : Init w) :
    Calls Try.prog 63 #[.func (.func gf) #[] lb] w fun e w' => ∃ v, e = .returned v ∧ Kd.R (Kd.int .i64) 3 w' w.heap.size (fun _ => True) v xs ∧ Fin w' ∧ KeepHi B w w' := by
  have HC := Aside0.mk (append_seq gf lb eg B Init Fin xs hseq hxs w hB hInit hFin hi)
  clear hseq hi eg hInit hFin
  go_enter Try.func63, Try.ntmps63
  go_wp2_with fail
  refine HC.out.mono ?_
  rintro e w' ⟨v, rfl, hR, hF, hK⟩
  have H := Aside0.mk (And.intro hR (And.intro hF hK))
  clear hR hF hK HC
  go_wp2_with fail
  go_returns
  exact ⟨v, rfl, H.out⟩
structure RepH (w : World) (gm go gt gn : Nat) (mv nv : Value) (oid t : Int) (W : World) : Prop where
  bl : Below w.heap.size w W
  m : W.heap[gm]? = some (.cells #[mv] 74 (0, 0))
  o : W.heap[go]? = some (.cells #[.int .i64 oid] 3 (0, 0))
  n : W.heap[gn]? = some (.cells #[nv] 95 (0, 0))
  t : W.heap[gt]? = some (.cells #[.int .i64 t] 3 (0, 0))
theorem RepH.dep {w : World} {gm go gt gn : Nat} {mv nv : Value} {oid t : Int} {B gp : Nat} (hm : gm < B ∧ gm ≠ gp) (ho : go < B ∧ go ≠ gp) (ht : gt < B ∧ gt ≠ gp) (hn : gn < B ∧ gn ≠ gp) (hw : w.heap.size ≤ gp) (hB : w.heap.size ≤ B) {W W' : World} (h : RepH w gm go gt gn mv nv oid t W) (hl : LoBut B gp W W') : RepH w gm go gt gn mv nv oid t W' :=
  ⟨⟨hl.os.trans h.bl.os, hl.tape.trans h.bl.tape, hl.output.trans h.bl.output, Nat.le_trans h.bl.size hl.size, fun k hk => (hl.block k (by omega) (by omega)).trans (h.bl.block k hk)⟩,
   (hl.block _ hm.1 hm.2).trans h.m, (hl.block _ ho.1 ho.2).trans h.o, (hl.block _ hn.1 hn.2).trans h.n, (hl.block _ ht.1 ht.2).trans h.t⟩
/-- the places that following hints comes by -/
def followL (l : List S36) (oid p : Int) : List Int := stepsR (nxH l oid) 1099511627778 p (-1)
def GoodH (l : List S36) (p _t : Int) : Prop := ∃ i : Nat, p = (i : Int) ∧ i < l.length
def muH (t : Int) : Nat := (1099511627776 - t).toNat
def nuH (gt : Nat) (W : World) : Nat := match W.cell? ⟨gt, 0, none⟩ with | some (.int _ t) => muH t | _ => 0
theorem good_nxH {l : List S36} (hv : Vat l l.length) (oid : Int) (p t : Int) (hg : GoodH l p t) (h : (nxH l oid p t).1.2 = true) : GoodH l (nxH l oid p t).1.1 (nxH l oid p t).2 ∧ muH (nxH l oid p t).2 < muH t := by
  obtain ⟨i, rfl, hi⟩ := hg
  have hx : l[i]? = some l[i] := List.getElem?_eq_getElem hi
  unfold nxH at h ⊢
  rw [postA_some hx] at h ⊢
  by_cases h1 : atB l[i].f1 oid = true
  · rw [if_pos h1] at h; cases h
  rw [if_neg h1] at h ⊢
  by_cases h2 : (atB l[i].f2 oid && decide (t < (lookL l[i].f2 oid).f2)) = true
  · rw [if_pos h2]
    rw [Bool.and_eq_true, decide_eq_true_iff] at h2
    obtain ⟨a, b⟩ := at_found h2.1
    obtain ⟨_, c1, c2, c3, c4⟩ := (hv.ok _ (List.mem_of_getElem? hx)).hints.all _ a
    refine ⟨⟨(lookL l[i].f2 oid).f1.toNat, (Int.toNat_of_nonneg c3).symm, by omega⟩, ?_⟩
    show muH (lookL l[i].f2 oid).f2 < muH t
    unfold muH
    omega
  · rw [if_neg h2] at h; cases h
theorem good_steps {l : List S36} (hv : Vat l l.length) (oid : Int) : ∀ (f : Nat) (p t : Int), GoodH l p t → ∀ q ∈ stepsR (nxH l oid) f p t, ∃ i : Nat, q = (i : Int) ∧ i < l.length
  | 0, p, t, _, q, hq => by cases hq
  | f + 1, p, t, hg, q, hq => by
    rw [stepsR] at hq
    rcases List.mem_cons.1 hq with rfl | hq
    · exact hg
    · by_cases h : (nxH l oid p t).1.2 = true
      · rw [if_pos h] at hq
        exact good_steps hv oid f _ _ (good_nxH hv oid p t hg h).1 q hq
      · rw [if_neg h] at hq; cases hq
theorem steps_len {σ : Type} (nx : Int → σ → (Int × Bool) × σ) : ∀ (f : Nat) (p : Int) (s : σ), (stepsR nx f p s).length ≤ f
  | 0, _, _ => Nat.le_refl _
  | f + 1, p, s => by
    rw [stepsR, List.length_cons]
    split
    · have := steps_len nx f (nx p s).1.1 (nx p s).2; omega
    · simp
end Go.Proofs.Ytjnceoohlcchnaa.Print

/-! Follow. -/
namespace Go.Proofs.Ytjnceoohlcchnaa.Print
open Go Go.RowKit Go.Deep Go.Proofs.YtjnceoohlcchnaaW.PrintWords Go.Proofs.YtjnceoohlcchnaaW.PrintLast Go.Proofs.YtjnceoohlcchnaaW.PrintMore

def lastI (l : List Int) : Int := l.getD (l.length - 1) 0
def foundB (l : List S36) (oid : Int) (by' : List Int) : Bool := atB (postA l (lastI by')).f1 oid
set_option maxRecDepth 100000 in
set_option maxHeartbeats 4000000 in
theorem follow_any (B : Option Addr) (cb : Nat) (l : List S36) (i : Nat) (oid : Int) (w : World) (hi : i < l.length) (hr : Kd.C k36 w B l.length l) (hcb : l.length ≤ cb) (hl : Short l) (hv : Vat l l.length) :
    Calls Try.prog 60 #[.slice B l.length cb, .int .i64 (i : Int), .int .i64 oid] w fun e w' => ∃ v, e = .returned (.tuple #[v, .bool (foundB l oid (followL l oid i))]) ∧ Kd.R (Kd.int .i64) 3 w' w.heap.size (fun _ => True) v (followL l oid i) ∧ Below w.heap.size w w' := by
  have HR := Aside0.mk hr
  have HS := Aside0.mk hl
  have HV := Aside0.mk hv
  have hl6 := hl.1
  obtain ⟨L, hL⟩ : ∃ L, L = followL l oid i := ⟨_, rfl⟩
  rw [← hL]
  have HL := Aside0.mk hL
  clear hr hl hv hL
  go_enter Try.func60, Try.ntmps60
  go_wp2_with fail
  refine (hints_any B l.length cb oid w).mono ?_
  rintro e w1 ⟨gm, go, gt, rfl, hm, ho, ht, hgm, hgo, hgt, hgot, hB1⟩
  have H1 := Aside0.mk (And.intro hm (And.intro ho (And.intro ht (And.intro hgm (And.intro hgo (And.intro hgt (And.intro hgot hB1)))))))
  clear hm ho ht hgm hgo hgt hgot hB1
  go_wp2_with fail
  refine (steps_any (i : Int) 105 #[.pointer (some ⟨gm, 0, none⟩), .pointer (some ⟨go, 0, none⟩), .pointer (some ⟨gt, 0, none⟩)] w1).mono ?_
  rintro e w2 ⟨gp, gn, rfl, hp, hn, hgp, hgn, hgpn, hB2⟩
  have H2 := Aside0.mk (And.intro hp (And.intro hn (And.intro hgp (And.intro hgn (And.intro hgpn hB2)))))
  clear hp hn hgp hgn hgpn hB2
  have HC : Aside0 (Calls Try.prog 63 #[.func (.func 95) #[] #[.pointer (some ⟨gp, 0, none⟩), .pointer (some ⟨gn, 0, none⟩)]] w2 fun e w' => ∃ v, e = .returned v ∧ Kd.R (Kd.int .i64) 3 w' w2.heap.size (fun _ => True) v L ∧ Below w.heap.size w w' ∧ KeepHi w2.heap.size w2 w') := ⟨by
    obtain ⟨hm, ho, ht, hgm, hgo, hgt, hgot, hB1⟩ := H1.out
    obtain ⟨hp, hn, hgp, hgn, hgpn, hB2⟩ := H2.out
    have m1 := blk_lt hm
    have o1 := blk_lt ho
    have t1 := blk_lt ht
    have m2 := blk_below hm hB2
    have o2 := blk_below ho hB2
    have t2 := blk_below ht hB2
    have p2 := blk_lt hp
    have n2 := blk_lt hn
    have s1 := hB1.size
    have s2 := hB2.size
    have hmo : gm ≠ gt := fun e => by rw [e, ht] at hm; cases hm
    rw [HL.out]
    unfold followL
    have hseq := steps1_seq 105 #[.pointer (some ⟨gm, 0, none⟩), .pointer (some ⟨go, 0, none⟩), .pointer (some ⟨gt, 0, none⟩)] (fun _ _ => rfl) gp gn w2.heap.size p2 (nxH l oid)
      (RepH w gm go gt gn (.slice B l.length cb) (.func (.func 105) #[] #[.pointer (some ⟨gm, 0, none⟩), .pointer (some ⟨go, 0, none⟩), .pointer (some ⟨gt, 0, none⟩)]) oid) (GoodH l) muH (nuH gt)
      (fun s W h => by
        have := blk_cell h.t 0
        unfold nuH
        rw [this]; rfl)
      (fun s W W' h hl => h.dep ⟨by omega, by omega⟩ ⟨by omega, by omega⟩ ⟨by omega, by omega⟩ ⟨n2, Ne.symm hgpn⟩ (by omega) (by omega) hl)
      (fun s W h => h.n)
      (fun p s W hg h hBW => by
        obtain ⟨j, rfl, hj⟩ := hg
        have c0 := blk_cell h.m 0
        have c1 := blk_cell h.o 0
        simp at c0 c1
        refine (hints1_any B cb l oid j s gm go gt W hj c0 c1 h.t (Kd.C_below HR.out h.bl) HS.out).mono ?_
        rintro e w' ⟨rfl, wx, hb, rfl⟩
        refine ⟨rfl, ?_⟩
        obtain ⟨r, hr⟩ : ∃ r, r = nxH l oid j s := ⟨_, rfl⟩
        have hrs : r.1.2 = false → r.2 = s := fun e => by
          rw [hr] at e ⊢
          unfold nxH at e ⊢
          split
          · rfl
          rename_i h1
          rw [if_neg h1] at e
          split
          · rename_i h2
            rw [if_pos h2] at e
            cases e
          · rfl
        rw [← hr]
        have hgtW := blk_lt h.t
        have hgpW : gp < W.heap.size := by omega
        unfold afterH
        by_cases hc : r.1.2 = true
        · rw [if_pos hc]
          refine ⟨⟨(below_step h.bl hb).setCell hgt _, ?_, ?_, ?_, ?_⟩, (KeepHi.of_below hb).set (p := ⟨gt, 0, none⟩) (by show gt < _; omega) _, ?_⟩
          · exact blk_far (blk_below h.m hb) hmo _
          · exact blk_far (blk_below h.o hb) hgot _
          · exact blk_far (blk_below h.n hb) (by show gn ≠ gt; omega) _
          · have h2 := blk_set (blk_below h.t hb) 0 (.int .i64 r.2)
            simpa using h2
          · exact (Below.heap_setCell wx ⟨gt, 0, none⟩ _ gp (by show gp ≠ gt; omega)).trans (hb.block gp hgpW)
        · rw [if_neg hc]
          have hrs := hrs (by simpa using hc)
          rw [hrs]
          exact ⟨⟨below_step h.bl hb, blk_below h.m hb, blk_below h.o hb, blk_below h.n hb, blk_below h.t hb⟩, .of_below hb, hb.block gp hgpW⟩)
      (fun p s hg h => good_nxH HV.out oid p s hg h) (i : Int) (-1) ⟨i, rfl, hi⟩
    have hmu : muH (-1) + 1 = 1099511627778 := by decide
    rw [hmu] at hseq
    refine (collect_any 95 _ (fun _ _ => rfl) w2.heap.size _ _ _ hseq (by have := steps_len (nxH l oid) 1099511627778 i (-1); omega) w2 (Nat.le_refl _)
      (fun W W' h hb => ⟨(hb.block gp p2).trans h.1, h.2.dep (B := w2.heap.size) (gp := gp) ⟨by omega, by omega⟩ ⟨by omega, by omega⟩ ⟨by omega, by omega⟩ ⟨n2, Ne.symm hgpn⟩ (by omega) (by omega) (.of_below hb)⟩)
      (fun W W' h hb => h.dep (B := w2.heap.size) (gp := gp) ⟨by omega, by omega⟩ ⟨by omega, by omega⟩ ⟨by omega, by omega⟩ ⟨n2, Ne.symm hgpn⟩ (by omega) (by omega) (.of_below hb))
      ⟨hp, ⟨below_step hB1 hB2, m2, o2, hn, t2⟩⟩).mono ?_
    rintro e w' ⟨v, rfl, hR, hF, hK⟩
    exact ⟨v, rfl, hR, hF.bl, hK⟩⟩
  go_wp2_with fail
  refine HC.out.mono ?_
  rintro e w3 ⟨v, rfl, hR, hB3, _⟩
  have hw2 : w.heap.size ≤ w2.heap.size := by
    obtain ⟨_, _, _, _, _, _, _, hB1⟩ := H1.out
    obtain ⟨_, _, _, _, _, hB2⟩ := H2.out
    exact Nat.le_trans hB1.size hB2.size
  obtain ⟨U, cu, rfl⟩ := Kd.R_slice hR
  have hall : ∀ q ∈ L, ∃ j : Nat, q = (j : Int) ∧ j < l.length := by
    rw [HL.out]
    exact good_steps HV.out oid _ _ _ ⟨i, rfl, hi⟩
  have hpos : 0 < L.length := by
    rw [HL.out]
    unfold followL
    rw [show (1099511627778 : Nat) = 1099511627777 + 1 from rfl, stepsR, List.length_cons]
    exact Nat.succ_pos _
  have hsmall : L.length ≤ 1099511627778 := by rw [HL.out]; exact steps_len _ _ _ _
  obtain ⟨k, hk⟩ : ∃ k, L.length = k + 1 := ⟨L.length - 1, by omega⟩
  obtain ⟨ad, q, rfl, hq, c0⟩ := int_at (Kd.R_reads' hR).2.2 k (by omega)
  obtain ⟨j, rfl, hj⟩ := hall q (List.mem_of_getElem? hq)
  have HF : Aside0 (foundB l oid L = atB (postA l j).f1 oid) := ⟨by
    unfold foundB lastI
    rw [hk, Nat.add_sub_cancel, List.getD_eq_getElem?_getD, hq]
    rfl⟩
  obtain ⟨pd, x, A1, c1, A2, c2, rfl, hx, p0, p1, p2, hc1, hC1, hc2, hC2⟩ := post_at (Kd.C_below HR.out hB3) j hj
  have HF2 : Aside0 (foundB l oid L = atB x.f1 oid) := ⟨by rw [HF.out, postA_some hx]⟩
  have HC1 := Aside0.mk hC1
  have HR3 := Aside0.mk (Kd.R_lower hR hw2)
  have HB3 := Aside0.mk hB3
  have hs1 := (HS.out.2 x (List.mem_of_getElem? hx)).1
  have hw : IntKind.i64.wrap ((L.length : Int) - 1) = (k : Int) := by rw [hk, IntKind.wrap_i64]; omega
  have dk : decide (k < L.length) = true := decide_eq_true (by omega)
  have dj : decide (j < l.length) = true := decide_eq_true hj
  have hkl : k < L.length := by omega
  obtain ⟨bb, hbb⟩ : ∃ b, b = foundB l oid L := ⟨_, rfl⟩
  have HK := Aside0.mk hk
  clear HC HF hR hB3 hall hpos hsmall hq hx hC1 hC2 hw2 hk hbb
  have hu := Try.underlying81
  go_wp2_with fail
  refine (has_any x.f0 A1 x.f1.length c1 A2 x.f2.length c2 x.f1 oid w3 rfl HC1.out hc1 hs1).mono ?_
  rintro e w4 ⟨rfl, hB⟩
  have HB4 := Aside0.mk (below_step HB3.out hB)
  have HR4 := Aside0.mk (Kd.R_below HR3.out hB)
  obtain ⟨y, hy⟩ : ∃ y, y = lookL x.f1 oid := ⟨_, rfl⟩
  rw [← hy]
  unfold hintV
  clear hB hy p0 p1 p2 c0
  go_wp2_with fail
  go_returns
  exact ⟨_, by rw [HF2.out]; rfl, Kd.R_below HR4.out (below_alloc (Below.refl _ _) _), below_alloc HB4.out _⟩
end Go.Proofs.Ytjnceoohlcchnaa.Print

/-! Follow, as it is called. -/
namespace Go.Proofs.Ytjnceoohlcchnaa.Print
open Go Go.RowKit Go.Deep Go.Proofs.YtjnceoohlcchnaaW.PrintWords Go.Proofs.YtjnceoohlcchnaaW.PrintLast Go.Proofs.YtjnceoohlcchnaaW.PrintMore

def followF (l : List S36) (place oid : Int) : List Int × Bool × Int :=
  if givenC l (decide (1 ≤ oid)) [place] = 0 then (followL l oid place, foundB l oid (followL l oid place), 0) else ([], false, givenC l (decide (1 ≤ oid)) [place])
set_option maxRecDepth 100000 in
theorem Follow_any (A : Option Addr) (n c : Nat) (l : List S36) (place oid : Int) (w : World) (hn : n = l.length) (hr : Kd.C k36 w A l.length l) (hc : n ≤ c) (hl : Short l) :
    Calls Try.prog 22 #[.slice A n c, .int .i64 place, .int .i64 oid] w fun e w' => ∃ v, e = .returned (.tuple #[v, .bool (followF l place oid).2.1, .int .i64 (followF l place oid).2.2]) ∧ Kd.R (Kd.int .i64) 3 w' w.heap.size (fun _ => True) v (followF l place oid).1 ∧ Below w.heap.size w w' := by
  subst hn
  have HR := Aside0.mk hr
  have HS := Aside0.mk hl
  have hl6 := hl.1
  clear hr hl
  go_enter Try.func22, Try.ntmps22
  go_wp2_with fail
  obtain ⟨g0, hg0⟩ : ∃ g, g = w.heap.size := ⟨_, rfl⟩
  obtain ⟨w1, hw1⟩ : ∃ w1, w1 = w.alloc (Obj.cells #[Value.int IntKind.i64 place] 3) := ⟨_, rfl⟩
  rw [← hw1, ← hg0]
  have HB1 : Aside0 (Below w.heap.size w w1) := ⟨by rw [hw1]; exact below_alloc (Below.refl _ _) _⟩
  have HP1 : Aside0 (Kd.C (Kd.int .i64) w1 (some ⟨g0, 0, none⟩) 1 [place]) := ⟨one_ints w1 place (by rw [hw1, hg0]; exact heap_alloc_new _ _)⟩
  clear hw1 hg0
  obtain ⟨ok, hok⟩ : ∃ ok, ok = decide (1 ≤ oid) := ⟨_, rfl⟩
  rw [← hok]
  refine (given_any A l.length c l ok (some ⟨g0, 0, none⟩) 1 1 [place] w1 rfl (Kd.C_below HR.out HB1.out) hc HS.out rfl HP1.out (Nat.le_refl _) (by simp)).mono ?_
  rintro e w2 ⟨v, rfl, hB, hv0, hv1⟩
  have HB2 : Aside0 (Below w.heap.size w w2) := ⟨HB1.out.trans (hB.mono HB1.out.size)⟩
  by_cases hgc : givenC l ok [place] = 0
  rotate_left
  · have HV : Aside0 (followF l place oid = ([], false, givenC l ok [place])) := ⟨by unfold followF; rw [← hok, if_neg hgc]⟩
    have hv := hv1 hgc
    subst hv
    obtain ⟨gc, hgc2⟩ : ∃ gc, gc = givenC l ok [place] := ⟨_, rfl⟩
    rw [← hgc2] at hgc HV ⊢
    have dg : (gc != 0) = true := by rw [bne_iff_ne]; exact hgc
    clear hgc hgc2 hok hv0 hv1 hB
    go_wp2_with fail
    go_returns
    exact ⟨.slice none 0 0, by rw [HV.out]; rfl, by rw [HV.out]; exact Kd.R_nil _ _ _ _ _, HB2.out⟩
  have HV : Aside0 (followF l place oid = (followL l oid place, foundB l oid (followL l oid place), 0)) := ⟨by unfold followF; rw [← hok, if_pos hgc]⟩
  have HM := Aside0.mk (check_vat (given_in hgc).2.1)
  obtain ⟨b, hpb, hbl, hy⟩ := given_post hgc
  subst hpb
  obtain ⟨g, cap, rfl, hO, hcap, hbg, hg2⟩ := own_of (hv0 hgc) (by omega)
  rw [hgc]
  have HO := Aside0.mk hO
  clear hgc hok hv0 hv1 hO hy hB hg2 hbg
  go_wp2_with fail
  refine (follow_any (some ⟨g, 0, none⟩) cap l b oid w2 hbl HO.out.C hcap HS.out HM.out).mono ?_
  rintro e w3 ⟨v, rfl, hR, hB⟩
  have HB3 := Aside0.mk (below_step HB2.out hB)
  have HR3 := Aside0.mk (Kd.R_lower hR HB2.out.size)
  obtain ⟨fb, hfb⟩ : ∃ f, f = foundB l oid (followL l oid b) := ⟨_, rfl⟩
  rw [← hfb] at HV ⊢
  clear hR hB hfb
  go_wp2_with fail
  go_returns
  exact ⟨v, by rw [HV.out]; rfl, by rw [HV.out]; exact HR3.out, HB3.out⟩
end Go.Proofs.Ytjnceoohlcchnaa.Print

/-! What a search computes; its ways out. -/
namespace Go.Proofs.Ytjnceoohlcchnaa.Print
open Go Go.RowKit Go.Deep Go.Proofs.YtjnceoohlcchnaaW.PrintWords Go.Proofs.YtjnceoohlcchnaaW.PrintLast Go.Proofs.YtjnceoohlcchnaaW.PrintMore

theorem results_tctt {P : Program} {fn : Func} {q p u v : Tmp} {ty : TypeId} (h : fn.results = #[.tmp q, .cell p ty, .tmp u, .tmp v]) (tmps : Array Value) (w : World) (g : Nat) (t : TypeId) (cs : Array Value) (fr : Nat × Nat) (d : TypeDesc)
    (hp : tmps.getD p undef = .pointer (some ⟨g, 0, none⟩)) (hg : w.heap[g]? = some (.cells cs t fr))
    (hu : P.underlying ty = some d) (hd : (match d with | .struct _ | .array _ _ => true | _ => false) = true) (hi : (P.info? ty).map (·.size) = some cs.size) :
    (results fn tmps).run P w = .ok (.tuple #[tmps.getD q undef, .agg cs, tmps.getD u undef, tmps.getD v undef]) w := by
  have hp' : tmps[p]?.getD undef = .pointer (some ⟨g, 0, none⟩) := by simpa using hp
  simp [results, h, hp', asAddr, run_loadVar_row w g t ty cs fr d hg hu hd hi]
theorem no_any (e : Int) (w : World) : Calls Try.prog 56 #[.int .i64 e] w fun r w' => r = .returned (.tuple #[.slice none 0 0, .agg #[.int .i64 0, .int .i64 0, .int .i64 0], .int .i64 0, .int .i64 e]) ∧ Below w.heap.size w w' := by
  have hu := Try.underlying31
  go_enter Try.func56, Try.ntmps56
  go_upto_region 1 with fail
  obtain ⟨g, hg⟩ : ∃ g, g = w.heap.size := ⟨_, rfl⟩
  obtain ⟨w1, hw1⟩ : ∃ w1, w1 = w.alloc (Obj.cells #[Value.int IntKind.i64 0, Value.int IntKind.i64 0, Value.int IntKind.i64 0] 31) := ⟨_, rfl⟩
  rw [← hw1, ← hg]
  have HB1 : Aside0 (Below w.heap.size w w1) := ⟨by rw [hw1]; exact below_alloc (Below.refl _ _) _⟩
  have HQ : Aside0 (w1.heap[g]? = some (.cells #[.int .i64 0, .int .i64 0, .int .i64 0] 31 (0, 0))) := ⟨by rw [hw1, hg]; exact heap_alloc_new _ _⟩
  have HG : Aside0 (w.heap.size ≤ g) := ⟨by omega⟩
  clear hw1 hg
  obtain ⟨q0, q1, q2, f0, f1, f2⟩ := blk3 HQ.out
  go_wp2_with fail
  refine bodyPost_ret (results_tctt rfl _ _ g 31 #[.int .i64 0, .int .i64 0, .int .i64 0] (0, 0) _ rfl (blk_store3 HQ.out _ _ _) Try.underlying31 rfl (by kernel_rfl)) rfl ?_
  exact ⟨rfl, below_store3 HB1.out HG.out _ _ _⟩
/-- how many are asked, from place p on -/
def askN (place hp : Int) : Nat → Nat → Bool → Nat → Nat
  | 0, _, _, s => s
  | m + 1, p, f, s => if f = true then s else if ((p : Int) == place) = true then askN place hp m (p + 1) f s else askN place hp m (p + 1) ((p : Int) == hp) (s + 1)
/-- all are told -/
def tellsF (h : S31) : List Int → List S36 → Option (List S36)
  | [], l => some l
  | p :: ps, l => if (postA l p).f0 = true then (if (tellF l p.toNat h).1 = true then tellsF h ps (tellF l p.toNat h).2 else none) else tellsF h ps l
def searchO (h : S31) (sent : Nat) : Option (List S36) → List S36 × S31 × Int × Int
  | some l => (l, h, sent, 0)
  | none => ([], ⟨0, 0, 0⟩, 0, 2)
def searchF (l : List S36) (place oid : Int) : List S36 × S31 × Int × Int :=
  if givenC l (decide (1 ≤ oid)) [place] = 0 then
    (if (postA l place).f0 = true then
      (if (whereL l oid).2 = true then
        (if ((whereL l oid).1.f1 == place) = true then (l, (whereL l oid).1, 0, 0)
        else searchO (whereL l oid).1 (askN place (whereL l oid).1.f1 l.length 0 (foundB l oid (followL l oid place)) (followL l oid place).length) (tellsF (whereL l oid).1 (place :: followL l oid place) l))
      else ([], ⟨0, 0, 0⟩, 0, 3))
    else ([], ⟨0, 0, 0⟩, 0, 1))
  else ([], ⟨0, 0, 0⟩, 0, givenC l (decide (1 ≤ oid)) [place])
end Go.Proofs.Ytjnceoohlcchnaa.Print
