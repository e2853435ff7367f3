/- Records without some numbers, the law's own change, and what torn writes leave: contracts and plain facts, whatever the input. -/
import Derived.Test.YtcdpkdehogcjnaaRF
import Derived.BigQuiet
import Derived.Deep.QuietTactic
import Derived.Test.YtcdpkdehogcjnaaRC
import Derived.Test.YtcdpkdehogcjnaaRE
import Derived.Lib.LaidTab
set_option linter.unusedVariables false
set_option linter.unusedSimpArgs false
/-! The reference's Without, over records as they lie. -/
namespace Go.Proofs.Ytcdpkdehogcjnaa.Print
open Go Go.RowKit Go.Deep Go.Proofs.YtcdpkdehogcjnaaW.PrintWords Go.Proofs.YtcdpkdehogcjnaaW.PrintLast Go.Proofs.YtcdpkdehogcjnaaW.PrintMore

def withoutR (ns : List Int) (l : List Raw) : List Raw := keepL (fun r => ns.contains r.1) l
def WoRel (w : World) (l : List Raw) (ns : List Int) (u5 u6 : Value) (wr : World) : Prop :=
  ∃ i : Nat, u6 = .int .i64 i ∧ i ≤ l.length ∧ Aside0 (Kd.R kRaw 62 wr w.heap.size (fun _ => True) u5 (withoutR ns (l.take i))) ∧ Aside0 (Below w.heap.size w wr)
theorem has_step (ns : List Int) (num x : Int) (k : Nat) (h : ns[k]? = some x) : (!(ns.take (k + 1)).contains num) = ((!(ns.take k).contains num) && (x != num)) := by
  rw [List.take_add_one, h]
  have e : (num == x) = (x == num) := by rw [Bool.beq_comm]
  simp only [Option.toList_some, List.contains_eq_mem, List.mem_append, List.mem_singleton, bne]
  by_cases h1 : num ∈ ns.take k
  · simp [h1]
  · by_cases h2 : num = x
    · simp [h2]
    · have h3 : ¬ x = num := fun e => h2 e.symm
      simp [h1, h2, h3]
theorem without_len (ns : List Int) (l : List Raw) : (withoutR ns l).length ≤ l.length := List.length_filter_le _ _

set_option maxRecDepth 100000 in
set_option maxHeartbeats 4000000 in
theorem without_raw (A : Option Addr) (c : Nat) (l : List Raw) (A1 : Option Addr) (c1 : Nat) (ns : List Int) (w : World) (ha : Kd.C kRaw w A l.length l) (hc : l.length ≤ c) (hb : Kd.C (Kd.int .i64) w A1 ns.length ns) (hc1 : ns.length ≤ c1) (hl : l.length ≤ 1000000000) (hn : ns.length ≤ 1000000000) :
    Calls Try.prog 55 #[.slice A l.length c, .slice A1 ns.length c1] w fun e w' => ∃ v, e = .returned v ∧ Kd.R kRaw 62 w' w.heap.size (fun _ => True) v (withoutR ns l) ∧ Below w.heap.size w w' := by
  have HA := Aside0.mk ha
  have HN := Aside0.mk hb
  clear ha hb
  go_enter Try.func55, Try.ntmps55
  go_wp2_with fail
  go_loopw [5, 6] (fun u5 u6 wr => WoRel w l ns u5 u6 wr) (fun _ u6 _ => l.length - (intOf u6).toNat)
  case atStart => exact ⟨0, rfl, by omega, ⟨Kd.R_nil _ _ _ _ _⟩, ⟨Below.refl _ _⟩⟩
  case round =>
    obtain ⟨i, rfl, hi, HR, HBW⟩ := hrel
    have hi9 : i ≤ 1000000000 := by omega
    by_cases hlt : i < l.length
    · have hd : decide (i < l.length) = true := decide_eq_true hlt
      have hst := keep_step (fun r => ns.contains r.1) l i hlt
      obtain ⟨r, hr⟩ : ∃ r, r = l[i] := ⟨_, rfl⟩
      rw [← hr] at hst
      have HST := Aside0.mk hst
      have HRR := Aside0.mk hr
      clear hst hr
      obtain ⟨num, A', n', c'⟩ := r
      have HAr : Aside0 (Kd.C kRaw wr A l.length l) := ⟨Kd.C_below HA.out HBW.out⟩
      have HNr : Aside0 (Kd.C (Kd.int .i64) wr A1 ns.length ns) := ⟨Kd.C_below HN.out HBW.out⟩
      have hol : (withoutR ns (l.take i)).length ≤ i := Nat.le_trans (without_len _ _) (by rw [List.length_take]; omega)
      have HOL := Aside0.mk hol
      clear hol
      go_wp2_with fail
      go_loopw [7, 8] (fun u7 u8 wk => ∃ k : Nat, u8 = .int .i64 k ∧ k ≤ ns.length ∧ u7 = .bool (!(ns.take k).contains num) ∧ Aside0 (Below wr.heap.size wr wk)) (fun _ u8 _ => ns.length - (intOf u8).toNat)
      case atStart => exact ⟨0, rfl, by omega, by simp, ⟨Below.refl _ _⟩⟩
      case round =>
        obtain ⟨k, rfl, hk, rfl, HBK⟩ := hrel
        have hk9 : k ≤ 1000000000 := by omega
        obtain ⟨ad, rfl, p0, p1⟩ := raw_at (Kd.C_below HAr.out HBK.out) i hlt
        rw [← HRR.out] at p0 p1
        simp only [sliceV] at p0 p1
        by_cases hkt : k < ns.length
        · have hd2 : decide (k < ns.length) = true := decide_eq_true hkt
          obtain ⟨ad1, x, rfl, hx, HX⟩ := cellN (Kd.C_below HNr.out HBK.out) k hkt (Nat.le_refl _)
          have HKS := Aside0.mk (has_step ns num x k HX.out)
          obtain ⟨kb, hkb⟩ : ∃ kb, kb = !(ns.take k).contains num := ⟨_, rfl⟩
          rw [← hkb] at HKS ⊢
          obtain ⟨nb, hnb⟩ : ∃ nb, (x != num) = nb := ⟨_, rfl⟩
          rw [hnb] at HKS
          clear hkb
          cases kb with
          | true =>
            go_wp2_with fail
            go_quiet (fail)
            go_wp2_with fail
            go_roundw
            case measure => simp [intOf]; omega
            case rel => exact ⟨k + 1, by go_num, by omega, by rw [HKS.out]; simp, ⟨pw_below_drewN HBK.out _⟩⟩
          | false =>
            go_wp2_with fail
            go_quiet (fail)
            go_wp2_with fail
            go_roundw
            case measure => simp [intOf]; omega
            case rel => exact ⟨k + 1, by go_num, by omega, by rw [HKS.out]; simp, ⟨pw_below_drewN HBK.out _⟩⟩
        · have hd2 : decide (k < ns.length) = false := decide_eq_false hkt
          rw [List.take_of_length_le (show ns.length ≤ k by omega)]
          obtain ⟨kb, hkb⟩ : ∃ kb, kb = ns.contains num := ⟨_, rfl⟩
          rw [← hkb]
          have HKB := Aside0.mk hkb
          have HRk := Aside0.mk (Kd.R_below HR.out HBK.out)
          have HBk := Aside0.mk (HBW.out.trans (HBK.out.mono HBW.out.size))
          clear hkb
          cases kb with
          | true =>
            go_wp2_with fail
            go_roundw
            case measure => simp [intOf]; omega
            case rel =>
              refine ⟨i + 1, by go_num, by omega, ⟨?_⟩, HBk⟩
              have h := HST.out
              simp only [← HKB.out, if_true, List.append_nil] at h
              unfold withoutR
              rw [h]
              exact HRk.out
          | false =>
            go_wp2_with (at_builtin; refine Kd.R_append kRaw (w0 := w) w.heap.size rfl (.tmp 35) (.tmp 40) 23 62 (.agg #[.int .i64 0, .slice none 0 0]) 32 rfl Try.underlying23 info62 rfl (by decide) (by decide) u5 (withoutR ns (l.take i)) (num, A', n', c') [.int .i64 num, .slice A' n' c'] (fun _ => True) (fun _ => False) rfl rfl ?aP (fun _ hk => hk.elim) (fun _ _ => trivial) HRk.out HBk.out HBk.out.size ?aL ?_)
            case aP => exact kRaw_mkM _ _ _ _
            case aL => have := HOL.out; omega
            intro v6 w6 hO6 hB6 _ _
            have HO6 := Aside0.mk hO6
            have HB6 := Aside0.mk hB6
            clear hO6 hB6
            go_wp2_with fail
            go_roundw
            case measure => simp [intOf]; omega
            case rel =>
              refine ⟨i + 1, by go_num, by omega, ⟨?_⟩, HB6⟩
              have h := HST.out
              simp only [← HKB.out, Bool.false_eq_true, if_false, ← HRR.out] at h
              unfold withoutR
              rw [h]
              exact HO6.out
    · have hd : decide (i < l.length) = false := decide_eq_false hlt
      go_wp2_with fail
      go_returns
      exact ⟨_, rfl, by have := HR.out; rwa [List.take_of_length_le (by omega)] at this, HBW.out⟩
theorem without_P (A : Option Addr) (c : Nat) (a : List S62) (A1 : Option Addr) (c1 : Nat) (ns : List Int) (w : World) (ha : Kd.C k62 w A a.length a) (hc : a.length ≤ c) (hb : Kd.C (Kd.int .i64) w A1 ns.length ns) (hc1 : ns.length ≤ c1) (hl : a.length ≤ 1000000000) (hn : ns.length ≤ 1000000000) :
    Calls Try.prog 55 #[.slice A a.length c, .slice A1 ns.length c1] w fun e w' => ∃ A2 c2, e = .returned (.slice A2 (leftL ns a).length c2) ∧ (leftL ns a).length ≤ c2 ∧ Kd.C k62 w' A2 (leftL ns a).length (leftL ns a) ∧ Below w.heap.size w w' := by
  obtain ⟨ra, hra, haa⟩ := raws_of ha
  have e1 := haa.1
  rw [← e1] at hc hra hl ⊢
  refine (without_raw A c ra A1 c1 ns w hra hc hb hc1 hl hn).mono ?_
  rintro e w' ⟨v, rfl, hR, hB⟩
  obtain ⟨A2, c2, rfl, hc2, hC⟩ := Kd.R_reads hR
  have hA : RawsAre w' (withoutR ns ra) (leftL ns a) := raws_keep ns (haa.below hB)
  have hlen := hA.1
  rw [hlen] at hc2 hC ⊢
  exact ⟨A2, c2, rfl, hc2, C_of_raws hC hA, hB⟩
end Go.Proofs.Ytcdpkdehogcjnaa.Print

/-! The law's own change. -/
namespace Go.Proofs.Ytcdpkdehogcjnaa.Print
open Go Go.RowKit Go.Deep Go.Proofs.YtcdpkdehogcjnaaW.PrintWords Go.Proofs.YtcdpkdehogcjnaaW.PrintLast Go.Proofs.YtcdpkdehogcjnaaW.PrintMore

/-- what the law's change answers: an error, or the writes of what is to be there behind it -/
def ChOk (xs : List Int) (j : Nat) (st : HSt) (beh : List S62) (ws : List S34) (er : Int) : Prop :=
  er ≠ 0 ∨ (er = 0 ∧ askedF beh = 0 ∧ (∀ x ∈ beh, IsBytes x.f1) ∧ writesOk (xs.length / 64) st.ver (recsB beh) = true ∧ ws = writesF j st.ver (freeL st.used 2 (xs.length / 64 - 2)) (recsB beh))
theorem chok_change {xs : List Int} {j : Nat} {st : HSt} {beh : List S62} {ws : List S34} {er : Int} (h : changeR xs j st beh = (ws, er)) (ha : askedF beh = 0) (hb : ∀ x ∈ beh, IsBytes x.f1) : ChOk xs j st beh ws er := by
  unfold changeR at h
  split at h
  · rename_i hw
    obtain ⟨rfl, rfl⟩ := Prod.mk.inj h
    exact .inr ⟨rfl, ha, hb, hw, rfl⟩
  · obtain ⟨rfl, rfl⟩ := Prod.mk.inj h
    exact .inl (by omega)
theorem chok_write {xs : List Int} {j : Nat} {st : HSt} (hd : diskF xs = some (j, st)) {l : List S62} {ws : List S34} {er : Int} (h : writeR xs l = (ws, er)) (hb : ∀ x ∈ l, IsBytes x.f1) : ChOk xs j st l ws er := by
  unfold writeR at h
  rw [hd] at h
  simp only at h
  split at h
  · rename_i ha
    exact chok_change h ha hb
  · rename_i ha
    obtain ⟨rfl, rfl⟩ := Prod.mk.inj h
    exact .inl ha
theorem chok_save {xs : List Int} (hx : IsBytes xs) {j : Nat} {st : HSt} (hd : diskF xs = some (j, st)) {now l : List S62} (hn : st.recs = now) (hnb : ∀ x ∈ now, IsBytes x.f1) {ws : List S34} {er : Int} (h : writeG xs l (savedL l) = (ws, er)) (hb : ∀ x ∈ l, IsBytes x.f1) : ChOk xs j st (mergeP now l) ws er := by
  have hna := disk_asked0 hx hd
  rw [hn] at hna
  unfold writeG at h
  rw [hd] at h
  simp only [hn] at h
  split at h
  · rename_i ha
    rw [merge_saved (asked_inc hna).2 (asked_inc ha).2]
    exact chok_change h (saved_asked hna ha) (saved_bytes hnb hb)
  · rename_i ha
    obtain ⟨rfl, rfl⟩ := Prod.mk.inj h
    exact .inl ha
theorem chok_drop {xs : List Int} (hx : IsBytes xs) {j : Nat} {st : HSt} (hd : diskF xs = some (j, st)) {now : List S62} (hn : st.recs = now) (hnb : ∀ x ∈ now, IsBytes x.f1) {ns : List Int} {ws : List S34} {er : Int} (h : writeG xs [] (leftL ns) = (ws, er)) : ChOk xs j st (leftL ns now) ws er := by
  have hna := disk_asked0 hx hd
  rw [hn] at hna
  unfold writeG at h
  rw [hd] at h
  simp only [hn] at h
  rw [if_pos (show askedF [] = 0 from rfl)] at h
  exact chok_change h (left_asked hna ns) (left_bytes hnb ns)

def numsOf (l : List S62) : List Int := l.map (·.f0)
def NuRel (w : World) (l : List S62) (u14 u15 : Value) (wr : World) : Prop :=
  ∃ i : Nat, u15 = .int .i64 i ∧ i ≤ l.length ∧ Aside0 (Kd.R (Kd.int .i64) 3 wr w.heap.size (fun _ => True) u14 (numsOf (l.take i))) ∧ Aside0 (Below w.heap.size w wr)

set_option maxRecDepth 100000 in
set_option maxHeartbeats 4000000 in
theorem change_walk (A0 : Option Addr) (c0 : Nat) (xs : List Int) (A1 : Option Addr) (c1 : Nat) (now : List S62) (kind : Int) (A2 : Option Addr) (c2 : Nat) (l : List S62) (w : World)
    (hr0 : Kd.C (Kd.int .u8) w A0 xs.length xs) (hc0 : xs.length ≤ c0) (hr1 : Kd.C k62 w A1 now.length now) (hc1 : now.length ≤ c1) (hr2 : Kd.C k62 w A2 l.length l) (hc2 : l.length ≤ c2)
    (hx : IsBytes xs) {j : Nat} {st : HSt} (hd : diskF xs = some (j, st)) (hn : st.recs = now) (hnb : ∀ x ∈ now, IsBytes x.f1) (hlb : ∀ x ∈ l, IsBytes x.f1) (hl : l.length ≤ 300) (hs : (recsB l).length ≤ 70368744177664) :
    Calls Try.prog 34 #[.slice A0 xs.length c0, .slice A1 now.length c1, .int .i64 kind, .slice A2 l.length c2] w fun e w' =>
      ∃ vw A c beh ws er, e = .returned (.tuple #[vw, .slice A (beh : List S62).length c, .int .i64 er]) ∧ beh.length ≤ c ∧ Kd.C k62 w' A beh.length beh ∧ Kd.R k34 34 w' w.heap.size (fun _ => True) vw ws ∧ ChOk xs j st beh ws er ∧ Below w.heap.size w w' := by
  have HD := Aside0.mk hr0
  have HN := Aside0.mk hr1
  have HL := Aside0.mk hr2
  have HX := Aside0.mk hx
  have HDK := Aside0.mk hd
  have HREC := Aside0.mk hn
  have HNB := Aside0.mk hnb
  have HLB := Aside0.mk hlb
  have HSZ := Aside0.mk hs
  have hnl : now.length ≤ 8000 := by rw [← hn]; exact disk_recs hd
  have HNL := Aside0.mk hnl
  obtain ⟨p, hp, hp0, hp3⟩ := pick_f kind 3 (by omega) (by omega)
  have HP := Aside0.mk hp
  clear hr0 hr1 hr2 hx hd hn hnb hlb hs hnl hp
  have hpp : p = 0 ∨ p = 1 ∨ p = 2 := by omega
  clear hp0 hp3
  go_enter Try.func34, Try.ntmps34
  go_wp2_with fail
  refine (beryllaw20_pick.calls kind 3 p w HP.out).mono ?_
  rintro e w' ⟨rfl, ⟨nd, rfl⟩⟩
  obtain ⟨w1, hw1⟩ : ∃ w1, w1 = w.drewN nd := ⟨_, rfl⟩
  have hB : Below w.heap.size w w1 := by rw [hw1]; exact pw_below_drewN (Below.refl _ _) _
  have hz : w1.heap.size = w.heap.size := by rw [hw1]; rfl
  rw [← hw1]
  have HW : Aside0 (Below w.heap.size w w1) := ⟨hB⟩
  have HZ := Aside0.mk hz
  replace HD := Aside0.mk (Kd.C_below HD.out hB)
  replace HN := Aside0.mk (Kd.C_below HN.out hB)
  replace HL := Aside0.mk (Kd.C_below HL.out hB)
  clear hw1 hB hz
  rcases hpp with rfl | rfl | rfl
  · obtain ⟨⟨ws, er⟩, hw⟩ : ∃ q, q = writeR xs l := ⟨_, rfl⟩
    have HWF : Aside0 (disk_Write.f xs l = some (ws, er)) := ⟨by unfold disk_Write.f; rw [if_pos ⟨HX.out, HSZ.out⟩, ← hw]⟩
    have HCH := Aside0.mk (chok_write HDK.out hw.symm HLB.out)
    clear hw
    go_wp2_with fail
    refine (disk_Write.calls A0 c0 xs A2 c2 l ws er w1 HD.out hc0 HL.out hc2 HWF.out).mono ?_
    rintro e w2 ⟨v, rfl, hR, hB⟩
    have HR := Aside0.mk hR
    replace HL := Aside0.mk (Kd.C_below HL.out hB)
    replace HW : Aside0 (Below w.heap.size w w2) := ⟨HW.out.trans (hB.mono HW.out.size)⟩
    clear hR hB
    go_wp2_with fail
    go_returns
    exact ⟨v, A2, c2, l, ws, er, rfl, hc2, HL.out, Kd.R_lower HR.out (Nat.le_of_eq HZ.out.symm), HCH.out, HW.out⟩
  · obtain ⟨⟨ws, er⟩, hw⟩ : ∃ q, q = writeG xs l (savedL l) := ⟨_, rfl⟩
    have HSF : Aside0 (disk_Save.f xs l = some (ws, er)) := ⟨by unfold disk_Save.f; rw [if_pos ⟨HX.out, by omega⟩, ← hw]⟩
    have HCH := Aside0.mk (chok_save HX.out HDK.out HREC.out HNB.out hw.symm HLB.out)
    clear hw
    go_wp2_with fail
    refine (disk_Save.calls A0 c0 xs A2 c2 l ws er w1 HD.out hc0 HL.out hc2 HSF.out).mono ?_
    rintro e w2 ⟨v, rfl, hR, hB⟩
    have HR := Aside0.mk hR
    replace HL := Aside0.mk (Kd.C_below HL.out hB)
    replace HN := Aside0.mk (Kd.C_below HN.out hB)
    replace HW : Aside0 (Below w.heap.size w w2) := ⟨HW.out.trans (hB.mono HW.out.size)⟩
    clear hR hB
    go_wp2_with fail
    refine (merged_P A1 c1 now A2 c2 l w2 HN.out hc1 HL.out hc2 (by have := HNL.out; omega)).mono ?_
    rintro e w3 ⟨A3, c3, rfl, hc3, hC, hB⟩
    replace HR := Aside0.mk (Kd.R_below HR.out hB)
    replace HW : Aside0 (Below w.heap.size w w3) := ⟨HW.out.trans (hB.mono HW.out.size)⟩
    have HC := Aside0.mk hC
    obtain ⟨mg, hmg⟩ : ∃ mg, mg = mergeP now l := ⟨_, rfl⟩
    rw [← hmg] at hc3 HC HCH ⊢
    clear hC hB hmg
    go_wp2_with fail
    go_returns
    exact ⟨v, A3, c3, mg, ws, er, rfl, hc3, HC.out, Kd.R_lower HR.out (Nat.le_of_eq HZ.out.symm), HCH.out, HW.out⟩
  · go_wp2_with fail
    go_loopw [14, 15] (fun u14 u15 wr => NuRel w1 l u14 u15 wr) (fun _ u15 _ => l.length - (intOf u15).toNat)
    case atStart => exact ⟨0, rfl, by omega, ⟨Kd.R_nil _ _ _ _ _⟩, ⟨Below.refl _ _⟩⟩
    case round =>
      obtain ⟨i, rfl, hi, HR, HBW⟩ := hrel
      have hi9 : i ≤ 300 := by omega
      have hnl : (numsOf (l.take i)).length ≤ 300 := by unfold numsOf; rw [List.length_map, List.length_take]; omega
      have HNU := Aside0.mk hnl
      clear hnl
      by_cases hlt : i < l.length
      · have hd : decide (i < l.length) = true := decide_eq_true hlt
        obtain ⟨ra, hra, haa⟩ := raws_of HL.out
        have e1 := haa.1
        have hra' : Kd.C kRaw wr A2 ra.length ra := by rw [e1]; exact Kd.C_below hra HBW.out
        obtain ⟨ad, rfl, p0, p1⟩ := raw_at hra' i (by omega)
        have hnum : (ra[i]'(by omega)).1 = l[i].f0 := (haa.2 i _ _ (List.getElem?_eq_getElem (by omega)) (List.getElem?_eq_getElem hlt)).1
        rw [hnum] at p0
        obtain ⟨num, hnm⟩ : ∃ num, num = l[i].f0 := ⟨_, rfl⟩
        rw [← hnm] at p0
        have HST : Aside0 (numsOf (l.take (i + 1)) = numsOf (l.take i) ++ [num]) := ⟨by unfold numsOf; rw [List.take_succ_eq_append_getElem hlt, List.map_append, hnm]; rfl⟩
        clear hnm hnum p1 hra' e1 haa hra
        go_wp2_with (at_builtin; refine Kd.R_append (Kd.int .i64) (w0 := w1) w1.heap.size rfl (.tmp 24) (.tmp 30) 26 3 (.int .i64 0) 8 rfl Try.underlying26 info3 rfl (by decide) (by omega) u14 (numsOf (l.take i)) num [.int .i64 num] (fun _ => True) (fun _ => False) rfl rfl ?aP (fun _ hk => hk.elim) (fun _ _ => trivial) HR.out HBW.out HBW.out.size ?aL ?_)
        case aP => exact rfl
        case aL => have := HNU.out; omega
        intro v6 w6 hO6 hB6 _ _
        have HO6 : Aside0 (Kd.R (Kd.int .i64) 3 w6 w1.heap.size (fun _ => True) v6 (numsOf (l.take (i + 1)))) := ⟨by rw [HST.out]; exact hO6⟩
        have HB6 := Aside0.mk hB6
        clear hO6 hB6
        go_wp2_with fail
        go_roundw
        case measure => simp [intOf]; omega
        case rel => exact ⟨i + 1, by go_num, by omega, HO6, HB6⟩
      · have hd : decide (i < l.length) = false := decide_eq_false hlt
        have hti : l.take i = l := List.take_of_length_le (by omega)
        rw [hti] at HR HNU
        obtain ⟨ns, hns⟩ : ∃ ns, ns = numsOf l := ⟨_, rfl⟩
        rw [← hns] at HR HNU
        obtain ⟨An, cn, rfl⟩ := Kd.R_slice HR.out
        obtain ⟨_, hcn, hCn⟩ := Kd.R_reads' HR.out
        have hnn := HNU.out
        have HNS := Aside0.mk hCn
        replace HD := Aside0.mk (Kd.C_below HD.out HBW.out)
        replace HN := Aside0.mk (Kd.C_below HN.out HBW.out)
        replace HW : Aside0 (Below w.heap.size w wr) := ⟨HW.out.trans (HBW.out.mono HW.out.size)⟩
        have HZ2 : Aside0 (w.heap.size ≤ wr.heap.size) := ⟨by have := HBW.out.size; have := HZ.out; omega⟩
        obtain ⟨⟨ws, er⟩, hw⟩ : ∃ q, q = writeG xs [] (leftL ns) := ⟨_, rfl⟩
        have HDF : Aside0 (disk_Drop.f xs ns = some (ws, er)) := ⟨by unfold disk_Drop.f; rw [if_pos ⟨HX.out, by omega⟩, ← hw]⟩
        have HCH := Aside0.mk (chok_drop HX.out HDK.out HREC.out HNB.out hw.symm)
        clear hw hCn hti hns HR HL
        go_wp2_with fail
        refine (disk_Drop.calls A0 c0 xs An cn ns ws er wr HD.out hc0 HNS.out hcn HDF.out).mono ?_
        rintro e w2 ⟨v, rfl, hR, hB⟩
        have HR := Aside0.mk hR
        replace HN := Aside0.mk (Kd.C_below HN.out hB)
        replace HNS := Aside0.mk (Kd.C_below HNS.out hB)
        replace HW : Aside0 (Below w.heap.size w w2) := ⟨HW.out.trans (hB.mono HW.out.size)⟩
        clear hR hB
        go_wp2_with fail
        refine (without_P A1 c1 now An cn ns w2 HN.out hc1 HNS.out hcn (by have := HNL.out; omega) (by omega)).mono ?_
        rintro e w3 ⟨A3, c3, rfl, hc3, hC, hB⟩
        replace HR := Aside0.mk (Kd.R_below HR.out hB)
        replace HW : Aside0 (Below w.heap.size w w3) := ⟨HW.out.trans (hB.mono HW.out.size)⟩
        have HC := Aside0.mk hC
        obtain ⟨mg, hmg⟩ : ∃ mg, mg = leftL ns now := ⟨_, rfl⟩
        rw [← hmg] at hc3 HC HCH ⊢
        clear hC hB hmg
        go_wp2_with fail
        go_returns
        exact ⟨v, A3, c3, mg, ws, er, rfl, hc3, HC.out, Kd.R_lower HR.out HZ2.out, HCH.out, HW.out⟩
end Go.Proofs.Ytcdpkdehogcjnaa.Print

/-! As of one moment, in plain Lean: what torn writes leave. -/
namespace Go.Proofs.Ytcdpkdehogcjnaa.Print
open Go Go.RowKit Go.Proofs.YtcdpkdehogcjnaaW.PrintWords Go.Proofs.YtcdpkdehogcjnaaW.PrintLast Go.Proofs.YtcdpkdehogcjnaaW.PrintMore

/-- what is asked of the other head's block: its last byte is that of the version before; and its first half ends in another byte, or its second half tells less -/
def Side (X : List Int) (ver : Int) : Prop := X.getD 63 0 = (ver - 1) % 256 ∧ (X.getD 31 0 ≠ (ver - 1) % 256 ∨ numb ((X.drop 56).take 8) < ver)
structure Inv (xs : List Int) (now : List S62) (ver : Int) : Prop where
  bytes : IsBytes xs
  disk : ∃ j st, diskF xs = some (j, st) ∧ st.recs = now ∧ st.ver = ver ∧ Side (blkL xs (1 - j)) ver

theorem blk_len {xs : List Int} {i : Nat} (h : (i + 1) * 64 ≤ xs.length) : (blkL xs i).length = 64 := by
  unfold blkL
  rw [List.length_take, List.length_drop]
  omega
theorem half_last {X : List Int} (h : X.take 32 = X.drop 32) : X.getD 31 0 = X.getD 63 0 := by
  have h2 := congrArg (fun l => l.getD 31 0) h
  simpa [List.getD_eq_getElem?_getD, List.getElem?_take, List.getElem?_drop] using h2
theorem half_ver {X : List Int} (h : X.take 32 = X.drop 32) : (X.drop 24).take 8 = (X.drop 56).take 8 := by
  have h2 := congrArg (fun l => l.drop 24) h
  simp only [List.drop_take, List.drop_drop] at h2
  rw [show 32 - 24 = 8 from rfl, show 32 + 24 = 56 from rfl] at h2
  have h3 := congrArg (fun l => l.take 8) h2
  simpa [List.take_take] using h3
theorem head_ok {xs : List Int} {nb i : Nat} {st : HSt} (h : headF xs nb i = some st) : (blkL xs i).take 32 = (blkL xs i).drop 32 := by
  unfold headF at h
  simp only at h
  split at h
  · rename_i ho
    exact ho.1
  · cases h
theorem side_lt {ys : List Int} {nb i : Nat} {s : HSt} {ver : Int} (hv : 1 ≤ ver) (h : headF ys nb i = some s) (hS : Side (blkL ys i) ver) : s.ver < ver := by
  have h1 := head_ok h
  have h2 := head_ver h
  have h3 := half_last h1
  have h4 := half_ver h1
  obtain ⟨s1, s2⟩ := hS
  rw [h2]
  unfold verB
  rw [h4]
  rcases s2 with s2 | s2
  · exact absurd (h3.trans s1) s2
  · omega
theorem bytes_getD {xs : List Int} (h : IsBytes xs) (i : Nat) : 0 ≤ xs.getD i 0 ∧ xs.getD i 0 < 256 := by
  rw [List.getD_eq_getElem?_getD]
  cases hi : xs[i]? with
  | none => simp
  | some x => exact h x (List.mem_of_getElem? hi)
theorem last_byte {ys : List Int} (h : ys.length = 8) (hb : IsBytes ys) : ys.getD 7 0 = numb ys % 256 := by
  have e : ys = ys.take 7 ++ [ys.getD 7 0] := by
    rw [List.getD_eq_getElem?_getD, List.getElem?_eq_getElem (by omega)]
    have := List.take_succ_eq_append_getElem (l := ys) (i := 7) (by omega)
    rw [List.take_of_length_le (by omega)] at this
    exact this
  have hb7 := bytes_getD hb 7
  have h2 := numb_snoc (ys.take 7) (ys.getD 7 0)
  rw [← e] at h2
  omega
theorem head_side {xs : List Int} (hb : IsBytes xs) {nb i : Nat} {st : HSt} (hn : (i + 1) * 64 ≤ xs.length) (h : headF xs nb i = some st) (hv : 1 ≤ st.ver) : Side (blkL xs i) (st.ver + 1) := by
  have h1 := head_ok h
  have h2 := head_ver h
  have h3 := half_last h1
  have h4 := half_ver h1
  have hl := blk_len hn
  have hbX : IsBytes (blkL xs i) := bytes_take (bytes_drop hb _) _
  have hl8 : (((blkL xs i).drop 24).take 8).length = 8 := by simp [hl]
  have h5 := last_byte hl8 (bytes_take (bytes_drop hbX _) _)
  have h6 : (((blkL xs i).drop 24).take 8).getD 7 0 = (blkL xs i).getD 31 0 := by simp [List.getD_eq_getElem?_getD, List.getElem?_take, List.getElem?_drop]
  have h0 := (numb_bound _ _ rfl (bytes_take (bytes_drop hbX 24) 8)).1
  unfold verB at h2
  refine ⟨?_, .inr ?_⟩
  · rw [← h3, ← h6, h5]
    omega
  · rw [← h4]
    omega
theorem side_torn {N X : List Int} {ver : Int} {part : Nat} (hN : N.length = 64) (hX : X.length = 64) (h31 : N.getD 31 0 = (ver + 1) % 256) (hp : part < 64) (hS : Side X ver) : Side (N.take part ++ X.drop part) ver := by
  obtain ⟨s1, s2⟩ := hS
  have get : ∀ q, (N.take part ++ X.drop part).getD q 0 = if q < part then N.getD q 0 else X.getD q 0 := fun q => by
    have hl : (N.take part).length = part := by rw [List.length_take]; omega
    rw [List.getD_eq_getElem?_getD, List.getElem?_append, hl]
    by_cases hq : q < part
    · rw [if_pos hq, if_pos hq, List.getElem?_take, if_pos hq, List.getD_eq_getElem?_getD]
    · rw [if_neg hq, if_neg hq, List.getElem?_drop, List.getD_eq_getElem?_getD, show part + (q - part) = q by omega]
  refine ⟨by rw [get, if_neg (by omega)]; exact s1, ?_⟩
  rw [get]
  by_cases h : 31 < part
  · left
    rw [if_pos h, h31]
    omega
  · rw [if_neg h]
    have e : (N.take part ++ X.drop part).drop 56 = X.drop 56 := by
      have hl : (N.take part).length = part := by rw [List.length_take]; omega
      rw [List.drop_append, hl, List.drop_of_length_le (by rw [hl]; omega), List.drop_drop, List.nil_append, show part + (56 - part) = 56 by omega]
    rw [e]
    exact s2
theorem putF_part {xs : List Int} {p : S34} (h : PutOk xs.length p) : blkL (putF xs p) p.f0.toNat = p.f1 ++ (blkL xs p.f0.toNat).drop p.f1.length := by
  obtain ⟨_, h1, h2⟩ := h
  unfold blkL putF
  rw [List.drop_left' (by rw [List.length_take]; omega), List.take_append, List.take_of_length_le h2, List.drop_take, List.drop_drop]
/-- a state stays where nothing of it is written, and the other head does not tell more -/
theorem keep_state {xs ys : List Int} {j : Nat} {st : HSt} (h : diskF xs = some (j, st)) (hl : ys.length = xs.length) (hj : blkL ys j = blkL xs j) (hu : ∀ x ∈ st.used, blkL ys x = blkL xs x) (hS : Side (blkL ys (1 - j)) st.ver) : diskF ys = some (j, st) := by
  obtain ⟨hs, hbest⟩ := size_of h
  obtain ⟨_, _, _, _, hh, hv1, _, _⟩ := disk_facts h
  unfold diskF
  rw [hl, if_pos hs]
  exact best_same hbest (head_same hh hj hu) (fun s hs2 => side_lt hv1 hs2 hS)

theorem writesL_take (f bs : List Int) (m k : Nat) (h : k ≤ m) : (writesL f bs m).take k = writesL f bs k := by
  unfold writesL
  rw [← List.map_take, List.take_range]
  congr 2
  omega
theorem writesL_get (f bs : List Int) (m k : Nat) (h : k < m) : (writesL f bs m)[k]? = some (putAt f bs k) := by
  unfold writesL
  rw [List.getElem?_map, List.getElem?_range h]
  rfl
/-- the writes of a change, piece by piece and head -/
structure WFacts (xs : List Int) (j : Nat) (st : HSt) (bs : List Int) (ws : List S34) (m : Nat) (F : Nat → Nat) (f : List Int) (ph : S34) : Prop where
  eq : ws = writesL f bs m ++ [ph]
  P : Pieces xs bs (xs.length / 64) m F f
  free : ∀ k, k < m → st.used.contains (F k) = false
  ok : PutOk xs.length ph
  at_ : ph.f0.toNat = 1 - j
  len : ph.f1.length = 64
  b31 : ph.f1.getD 31 0 = (st.ver + 1) % 256
  many : m ≤ 128
theorem writes_facts {xs : List Int} {j : Nat} {st : HSt} (h : diskF xs = some (j, st)) {bs : List Int} (hok : writesOk (xs.length / 64) st.ver bs = true) :
    ∃ m F f ph, WFacts xs j st bs (writesF j st.ver (freeL st.used 2 (xs.length / 64 - 2)) bs) m F f ph := by
  obtain ⟨e64, h8, h256, hj1, hh, hv1, hv2, hu⟩ := disk_facts h
  have hw : bs.length ≤ 62 * ((xs.length / 64 - 2) / 2) ∧ st.ver < 1099511627776 := by
    unfold writesOk roomN at hok
    simpa using hok
  have hm := free_room (b := bs.length) h8 hu hw.1
  obtain ⟨P, hfree⟩ := pieces_of h bs hm
  refine ⟨_, _, _, _, rfl, P, hfree, ?_, ?_, ?_, ?_, by omega⟩
  · refine ⟨?_, ?_, ?_⟩
    · show (0 : Int) ≤ 1 - (j : Int); omega
    · show ((1 - (j : Int)).toNat + 1) * 64 ≤ _; omega
    · simp [headB, wordL, longL]
  · show (1 - (j : Int)).toNat = _; omega
  · simp [headB, wordL, longL]
  · simp [headB, wordL, longL]
theorem torn_step {xs : List Int} {l now : List S62} {ver : Int} {j : Nat} {st : HSt} (hb : IsBytes xs) (h : diskF xs = some (j, st)) (hrec : st.recs = now) (hver : st.ver = ver) (hS : Side (blkL xs (1 - j)) ver) (ha : askedF l = 0) (hlb : ∀ x ∈ l, IsBytes x.f1) (hok : writesOk (xs.length / 64) st.ver (recsB l) = true)
    {ws : List S34} (hws : ws = writesF j st.ver (freeL st.used 2 (xs.length / 64 - 2)) (recsB l)) (whole part : Nat) (hw : whole ≤ ws.length) (hp : part ≤ 64) (hpw : whole = ws.length → part = 0) :
    ∃ ys, disk_Torn.f xs ws whole part = some (ys, 0) ∧
      if whole = ws.length ∨ (whole + 1 = ws.length ∧ part = 64) then Inv ys l (ver + 1) else Inv ys now ver := by
  subst hrec hver
  have B := change_back hb h ha hlb hok
  rw [← hws] at B
  obtain ⟨e64, h8, h256, hj1, hh, hv1, hv2, hu⟩ := disk_facts h
  obtain ⟨m, F, f, ph, W⟩ := writes_facts h hok
  rw [← hws] at W
  have hbb : IsBytes (recsB l) := bytes_recs hlb
  obtain ⟨bs, hbs⟩ : ∃ bs, bs = recsB l := ⟨_, rfl⟩
  rw [← hbs] at W hbb
  have hlen : ws.length = m + 1 := by rw [W.eq, List.length_append, writesL_len]; rfl
  rw [hlen] at hw hpw ⊢
  have hpb : IsBytes ph.f1 := by
    have := B.bytes
    intro x hx
    rw [W.eq, doneF_snoc] at this
    exact this x (by unfold putF; simp [hx])
  -- whole
  have hfull : Inv (doneF xs ws) l (st.ver + 1) := by
    obtain ⟨u, hu2⟩ := B.disk
    refine ⟨B.bytes, 1 - j, _, hu2, rfl, rfl, ?_⟩
    obtain ⟨d1, d2, d3⟩ := W.P.done m (Nat.le_refl _)
    have ej : blkL (doneF xs ws) (1 - (1 - j)) = blkL xs j := by
      rw [show 1 - (1 - j) = j by omega, W.eq, doneF_snoc, putF_blk (by rw [d1]; exact W.ok) j (by rw [W.at_]; omega)]
      exact d3 j (fun k hk => by have := (W.P.ge k hk).1; omega)
    rw [ej]
    exact head_side hb (by omega) hh hv1
  -- what is torn before the head
  have hpart : ∀ ys : List Int, IsBytes ys → ys.length = xs.length → (∀ i, (∀ k, k < m → i ≠ F k) → i ≠ 1 - j → blkL ys i = blkL xs i) → Side (blkL ys (1 - j)) st.ver → Inv ys st.recs st.ver := fun ys h1 h2 h3 h4 => by
    refine ⟨h1, j, st, keep_state h h2 (h3 j (fun k hk => by have := (W.P.ge k hk).1; omega) (by omega)) (fun x hx => h3 x (fun k hk e => ?_) (by have := head_used hh x hx; omega)) h4, rfl, rfl, h4⟩
    have g1 := W.free k hk
    rw [← e] at g1
    have g2 : st.used.contains x = true := by simpa using hx
    rw [g2] at g1
    cases g1
  have htorn : ∀ (wh pt : Nat), wh ≤ m + 1 → powerOk ws wh pt = true → disk_Torn.f xs ws wh pt = some (if (pt : Int) = 0 then doneF xs (ws.take wh) else doneF (doneF xs (ws.take wh)) (partOf ws wh pt), 0) := fun wh pt _ hpo => by
    unfold disk_Torn.f
    rw [B.puts, if_pos rfl, if_pos hpo, Int.toNat_natCast, Int.toNat_natCast]
  have hpow0 : ∀ wh : Nat, wh ≤ m + 1 → powerOk ws wh (0 : Nat) = true := fun wh h => by
    unfold powerOk
    rw [hlen]
    simp
    omega
  have hbp : ∀ k, k < m → IsBytes (putAt f bs k).f1 := fun k _ => bytes_put f hbb k
  -- by cases
  by_cases hfl : whole = m + 1
  · have hp0 := hpw hfl
    subst hfl
    subst hp0
    refine ⟨_, htorn _ _ (Nat.le_refl _) (hpow0 _ (Nat.le_refl _)), ?_⟩
    rw [if_pos (.inl rfl), if_pos (show ((0 : Nat) : Int) = 0 from rfl), List.take_of_length_le (by omega)]
    exact hfull
  have hwm : whole ≤ m := by omega
  have htake : ws.take whole = writesL f bs whole := by
    rw [W.eq, List.take_append_of_le_length (by rw [writesL_len]; exact hwm), writesL_take _ _ _ _ hwm]
  obtain ⟨d1, d2, d3⟩ := W.P.done whole hwm
  have hdb : IsBytes (doneF xs (writesL f bs whole)) := bytes_done hb (fun p hp => by
    unfold writesL at hp
    obtain ⟨k, _, rfl⟩ := List.mem_map.1 hp
    exact bytes_put f hbb k)
  have hside : blkL (doneF xs (writesL f bs whole)) (1 - j) = blkL xs (1 - j) := d3 _ (fun k hk => by have := (W.P.ge k (by omega)).1; omega)
  by_cases hp0 : part = 0
  · subst hp0
    refine ⟨_, htorn _ _ hw (hpow0 _ hw), ?_⟩
    rw [if_neg (by omega), if_pos (show ((0 : Nat) : Int) = 0 from rfl), htake]
    exact hpart _ hdb d1 (fun i h1 _ => d3 i (fun k hk => h1 k (by omega))) (by rw [hside]; exact hS)
  have hget : ∃ p, ws[whole]? = some p ∧ p.f1.length = 64 ∧ IsBytes p.f1 ∧ PutOk xs.length p ∧ ((whole < m ∧ p.f0.toNat = F whole) ∨ (whole = m ∧ p = ph)) := by
    rcases Nat.lt_or_ge whole m with hlt | hge
    · refine ⟨putAt f bs whole, ?_, putAt_len _ _ _, hbp _ hlt, (W.P.put whole hlt).2, .inl ⟨hlt, by rw [(W.P.put whole hlt).1, Int.toNat_natCast]⟩⟩
      rw [W.eq, List.getElem?_append_left (by rw [writesL_len]; exact hlt)]
      exact writesL_get _ _ _ _ hlt
    · obtain rfl : whole = m := by omega
      refine ⟨ph, ?_, W.len, hpb, W.ok, .inr ⟨rfl, rfl⟩⟩
      rw [W.eq, List.getElem?_append_right (by rw [writesL_len]; exact Nat.le_refl _), writesL_len, Nat.sub_self]
      rfl
  obtain ⟨p, hp1, hp2, hp3, hp4, hp5⟩ := hget
  have hpo : powerOk ws whole part = true := by
    unfold powerOk
    rw [Int.toNat_natCast, hp1, hlen]
    simp
    omega
  have hT := htorn whole part hw hpo
  rw [if_neg (by omega), htake] at hT
  have hpt : partOf ws whole part = [⟨p.f0, p.f1.take part⟩] := by
    unfold partOf
    rw [hp1]
  rw [hpt] at hT
  refine ⟨_, hT, ?_⟩
  obtain ⟨q, hq⟩ : ∃ q : S34, q = ⟨p.f0, p.f1.take part⟩ := ⟨_, rfl⟩
  rw [← hq]
  have hq0 : q.f0 = p.f0 := by rw [hq]
  have hq1 : q.f1 = p.f1.take part := by rw [hq]
  have hql : q.f1.length = part := by rw [hq1, List.length_take]; omega
  have hqok : PutOk (doneF xs (writesL f bs whole)).length q := by
    rw [d1]
    exact ⟨by rw [hq0]; exact hp4.1, by rw [hq0]; exact hp4.2.1, by omega⟩
  show if _ then Inv (putF (doneF xs (writesL f bs whole)) q) l (st.ver + 1) else Inv (putF (doneF xs (writesL f bs whole)) q) st.recs st.ver
  have hqb : IsBytes (putF (doneF xs (writesL f bs whole)) q) := putF_bytes hdb (by rw [hq1]; exact bytes_take hp3 _)
  have hqlen : (putF (doneF xs (writesL f bs whole)) q).length = xs.length := by rw [putF_len hqok, d1]
  rcases hp5 with ⟨hlt, hF⟩ | ⟨hwm2, hpp⟩
  · rw [if_neg (by omega)]
    refine hpart _ hqb hqlen (fun i h1 h2 => ?_) ?_
    · rw [putF_blk hqok i (by rw [hq0, hF]; exact h1 whole hlt)]
      exact d3 i (fun k hk => h1 k (by omega))
    · rw [putF_blk hqok (1 - j) (by rw [hq0, hF]; have := (W.P.ge whole hlt).1; omega), hside]
      exact hS
  · subst hpp
    have hat : q.f0.toNat = 1 - j := by rw [hq0, W.at_]
    by_cases h64 : part = 64
    · rw [if_pos (.inr ⟨by omega, h64⟩)]
      have e : q = p := by
        rw [hq, h64, List.take_of_length_le (by omega)]
      have e2 : putF (doneF xs (writesL f bs whole)) q = doneF xs ws := by
        rw [W.eq, doneF_snoc, e, hwm2]
      rw [e2]
      exact hfull
    · rw [if_neg (by omega)]
      refine hpart _ hqb hqlen (fun i h1 h2 => ?_) ?_
      · rw [putF_blk hqok i (by rw [hat]; exact h2)]
        exact d3 i (fun k hk => h1 k (by omega))
      · have e := putF_part hqok
        rw [hat, hside, hql, hq1] at e
        rw [e]
        exact side_torn W.len (blk_len (by omega)) W.b31 (by omega) hS
/-- an empty disk -/
theorem format_inv (n : Int) (h8 : 8 ≤ n) (h256 : n ≤ 256) : Inv (formatL n) [] 1 := by
  obtain ⟨k, rfl⟩ := Int.eq_ofNat_of_zero_le (show 0 ≤ n by omega)
  obtain ⟨ys, hys⟩ : ∃ ys, ys = formatL (k : Int) := ⟨_, rfl⟩
  have hHl : (headB 0 0 0 1).length = 32 := by simp [headB, wordL, longL]
  have hdef : ys = (headB 0 0 0 1 ++ headB 0 0 0 1) ++ List.replicate (k * 64 - 64) 0 := by rw [hys, formatL, Int.toNat_natCast]
  have h64 : (headB 0 0 0 1 ++ headB 0 0 0 1).length = 64 := by rw [List.length_append, hHl]
  have hlen : ys.length = k * 64 := by rw [hdef, List.length_append, h64, List.length_replicate]; omega
  have hb0 : blkL ys 0 = headB 0 0 0 1 ++ headB 0 0 0 1 := by
    unfold blkL
    rw [Nat.zero_mul, List.drop_zero, hdef, List.take_left' h64]
  have hb1 : blkL ys 1 = List.replicate 64 0 := by
    unfold blkL
    rw [Nat.one_mul, hdef, List.drop_left' h64, List.take_replicate]
    congr 1
    omega
  have hs : sizeOk ys.length = true := by
    unfold sizeOk
    rw [hlen]
    simp
    omega
  have hnb : ys.length / 64 = k := by omega
  have h0 : headF ys k 0 = some ⟨((1 : Nat) : Int), (List.range 0).map (fun _ => 0), []⟩ :=
    head_written (bs := []) (l := []) (m := 0) (F := fun _ => 0) (v := 1) (by omega) rfl rfl rfl (by simp) (by omega) hb0 (fun k hk => absurd hk (by omega)) (fun k hk => absurd hk (by omega)) (fun i k _ hk => absurd hk (by omega))
  have h1 : headF ys k 1 = none := by
    unfold headF
    rw [hb1]
    have e : numb (((List.replicate 64 (0 : Int)).drop 24).take 8) = 0 := by rfl
    simp only [e]
    rw [if_neg (fun ho => by have := ho.2.2.1; simp at this)]
  rw [← hys]
  refine ⟨?_, 0, ⟨1, [], []⟩, ?_, rfl, rfl, ?_⟩
  · rw [hdef]
    exact bytes_app (bytes_app (bytes_headB _ _ _ _) (bytes_headB _ _ _ _)) (bytes_zeros _)
  · unfold diskF
    rw [if_pos hs, hnb]
    unfold bestK bestK bestK
    rw [h1, h0]
    rfl
  · show Side (blkL ys 1) 1
    rw [hb1]
    refine ⟨by decide, .inr ?_⟩
    rw [show numb (((List.replicate 64 (0 : Int)).drop 56).take 8) = 0 by rfl]
    omega
end Go.Proofs.Ytcdpkdehogcjnaa.Print

/-! Parameters as lists: whole numbers, rows of records, pairs of numbers. -/
namespace Go.Proofs.Ytcdpkdehogcjnaa.Print
open Go Go.ChangeShapes Go.WideShapes Go.ChangeAt Go.RowKit Go.Deep Go.Proofs.YtcdpkdehogcjnaaW.PrintWords Go.Proofs.YtcdpkdehogcjnaaW.PrintLast Go.Proofs.YtcdpkdehogcjnaaW.PrintMore
section
variable {H : Type} {enc : TypeId × Value → H} {W : World} {held : Bool}

set_option maxRecDepth 100000 in
theorem lift_ints {a : Option Addr} {len cap : Nat} {d : DataW H} {ps : List MemPlace} (h : DataW.Trod enc Try.prog W 0 (fun _ => true) held 26 (.slice a len cap) d ps) (hz : ∀ n ∈ d.weights Try.prog 26, n ≤ reachBytes) :
    ∃ l : List Int, l.length = len ∧ len ≤ cap ∧ Kd.C (Kd.int .i64) W a len l ∧ len * 8 ≤ 140737488351232 ∧ ∀ x ∈ l, (Lit.int .i64 x).wf = true := by
  obtain ⟨fuel, hf⟩ := h
  rcases open_ints Try.underlying26 Try.underlying3 (by kernel_rfl) hf with ⟨hcs, _⟩ | ⟨x, l', c', zs, hcs, _, hl, hm, hzl, hx, hcell, hwf⟩
  · simp [Value.cells] at hcs
    obtain ⟨rfl, rfl, rfl⟩ := hcs
    exact ⟨[], rfl, Nat.le_refl _, Kd.C_nil _ _, by simp, by simp⟩
  · simp [Value.cells] at hcs
    obtain ⟨rfl, rfl, rfl⟩ := hcs
    simp only [if_true] at hzl
    obtain ⟨hd, _⟩ := Prod.mk.inj hx
    subst hd
    have hlen : (zs.take len).length = len := by simp; omega
    have hw := hz ((lits (H := H) .i64 (zs.take len)).length + (lits (H := H) .i64 (zs.drop len)).length |>.mul (Try.prog.bytesOf 3)) (by
      rw [DataW.weights, Try.underlying26]
      exact List.mem_cons_self ..)
    rw [show Try.prog.bytesOf 3 = 8 from by kernel_rfl] at hw
    have hw2 : zs.length * 8 ≤ reachBytes := by
      simp [lits] at hw
      omega
    refine ⟨zs.take len, hlen, hl, ⟨hlen, by unfold maxLen at hm; omega, fun _ => ⟨x, rfl, fun j p hj => ⟨[.int .i64 p], rfl, rfl, fun i u hu => ?_⟩⟩⟩, by unfold reachBytes at hw2; omega, fun b hb => hwf b (List.mem_of_mem_take hb)⟩
    cases i with
    | succ i => simp at hu
    | zero =>
      simp at hu
      subst hu
      show W.cell? (x.add (j * 1 + 0)) = _
      rw [Nat.mul_one, Nat.add_zero]
      have h1 : zs[j]? = some p := by
        rw [List.getElem?_take] at hj
        split at hj
        · exact hj
        · cases hj
      have h2 := hcell j (List.getElem?_eq_some_iff.1 h1).1
      rw [List.getD_eq_getElem?_getD, h1] at h2
      exact h2

set_option maxRecDepth 100000 in
theorem lift_rows {a : Option Addr} {len cap : Nat} {d : DataW H} {ps : List MemPlace} (h : DataW.Trod enc Try.prog W 0 (fun _ => true) held 54 (.slice a len cap) d ps) (hz : ∀ n ∈ d.weights Try.prog 54, n ≤ reachBytes) :
    ∃ l : List (List S62), l.length = len ∧ len ≤ cap ∧ Kd.C (Kd.slice 62 k62) W a len l ∧ ∀ r ∈ l, r.length * 32 ≤ 140737488351232 ∧ ∀ x ∈ r, RecFits x := by
  obtain ⟨fuel, hf⟩ := h
  rcases open_slice1 Try.underlying54 (by kernel_rfl) hf with ⟨hcs, _⟩ | ⟨x, l', c', m, n, V, D, Pl, hcs, _, hl, hm, hmm, hx, hcell⟩
  · simp [Value.cells] at hcs
    obtain ⟨rfl, rfl, rfl⟩ := hcs
    exact ⟨[], rfl, Nat.le_refl _, Kd.C_nil _ _, by simp⟩
  · simp [Value.cells] at hcs
    obtain ⟨rfl, rfl, rfl⟩ := hcs
    simp only [if_true] at hmm
    subst hmm
    obtain ⟨hd, _⟩ := Prod.mk.inj hx
    subst hd
    rw [DataW.weights, Try.underlying54] at hz
    have each : ∀ i, i < len → ∃ y : List S62 × Option Addr × Nat, V i = .slice y.2.1 y.1.length y.2.2 ∧ y.1.length ≤ y.2.2 ∧ Kd.C k62 W y.2.1 y.1.length y.1 ∧ y.1.length * 32 ≤ 140737488351232 ∧ ∀ x ∈ y.1, RecFits x := by
      intro i hi
      obtain ⟨_, g⟩ := hcell i (by omega)
      have hw1 : ∀ n ∈ (D i).weights Try.prog 23, n ≤ reachBytes := by
        intro n hn
        exact hz n (List.mem_cons_of_mem _ (List.mem_append_left _ (weights_all (d := D i) (List.mem_map.2 ⟨i, List.mem_range.2 hi, rfl⟩) n hn)))
      have hs : ∃ A' n' c', V i = .slice A' n' c' := by
        rcases open_slice Try.underlying23 g with ⟨e, _⟩ | ⟨a', l', c', _, _, _, _, e, _⟩
        · injection e with e _
          exact ⟨_, _, _, e⟩
        · injection e with e _
          exact ⟨_, _, _, e⟩
      obtain ⟨A', n', c', hv⟩ := hs
      rw [hv] at g
      obtain ⟨r, r1, r2, r3, r4, r5⟩ := lift_recs (a := A') (len := n') (cap := c') ⟨_, by simpa [Value.cells] using g⟩ hw1
      subst r1
      exact ⟨(r, A', c'), hv, r2, r3, r4, r5⟩
    haveI : Inhabited (List S62 × Option Addr × Nat) := ⟨([], none, 0)⟩
    obtain ⟨y, hy⟩ := choose_lt each
    refine ⟨(List.range len).map fun i => (y i).1, by simp, hl, ⟨by simp, by unfold maxLen at hm; omega, fun _ => ⟨x, rfl, fun j p hj => ?_⟩⟩, fun q hq => ?_⟩
    · rw [List.getElem?_map] at hj
      obtain ⟨i, hi, rfl⟩ := Option.map_eq_some_iff.1 hj
      obtain ⟨hjl, hji⟩ := List.getElem?_eq_some_iff.1 hi
      simp at hjl hji
      subst hji
      obtain ⟨e0, e1, e2, _⟩ := hy j hjl
      obtain ⟨q0, _⟩ := hcell j (by omega)
      refine ⟨[.slice (y j).2.1 (y j).1.length (y j).2.2], rfl, ⟨_, _, rfl, e1, e2⟩, fun i u hu => ?_⟩
      match i, hu with
      | 0, hu =>
        simp at hu
        subst hu
        show W.cell? (x.add (j * 1 + 0)) = _
        rw [Nat.mul_one, Nat.add_zero, ← e0]
        exact q0
    · obtain ⟨i, hi, rfl⟩ := List.mem_map.1 hq
      exact (hy i (List.mem_range.1 hi)).2.2.2

set_option maxRecDepth 100000 in
theorem lift_cuts {a : Option Addr} {len cap : Nat} {d : DataW H} {ps : List MemPlace} (h : DataW.Trod enc Try.prog W 0 (fun _ => true) held 55 (.slice a len cap) d ps) :
    ∃ l : List (Int × Int), l.length = len ∧ len ≤ cap ∧ Kd.C (Kd.pair (Kd.int .i64) (Kd.int .i64)) W a len l := by
  obtain ⟨fuel, hf⟩ := h
  rcases open_slice Try.underlying55 hf with ⟨hcs, _⟩ | ⟨x, l', c', m, n, D, Pl, hcs, _, hl, hm, hmm, hx, hcell⟩
  · simp [Value.cells] at hcs
    obtain ⟨rfl, rfl, rfl⟩ := hcs
    exact ⟨[], rfl, Nat.le_refl _, Kd.C_nil _ _⟩
  · simp [Value.cells] at hcs
    obtain ⟨rfl, rfl, rfl⟩ := hcs
    simp only [if_true] at hmm
    subst hmm
    rw [show Try.prog.cellsOf 58 = 2 from by kernel_rfl] at hcell
    have each : ∀ i, i < len → ∃ y : Int × Int, W.cell? (x.add (i * 2)) = some (.int .i64 y.1) ∧ W.cell? (x.add (i * 2 + 1)) = some (.int .i64 y.2) := by
      intro i hi
      obtain ⟨cs', h1, h2⟩ := hcell i (by omega)
      obtain ⟨_, hlen, hc⟩ := World.cells?_some h1
      cases n with
      | zero => simp [DataW.trod] at h2
      | succ n =>
        simp only [DataW.trod, Try.underlying58] at h2
        split at h2
        · obtain ⟨xs, hmm, hx⟩ := Option.map_eq_some_iff.1 h2
          obtain ⟨b0, _, f0⟩ := Lib.mapM_at hmm 0 0 rfl
          obtain ⟨b1, _, f1⟩ := Lib.mapM_at hmm 1 1 rfl
          rw [show Try.prog.cellsOf 3 = 1 from by kernel_rfl] at f0 f1
          match cs', hlen with
          | [v0, v1], _ =>
            obtain ⟨z0, e0, _⟩ := DataW.trod_int Try.underlying3 f0
            obtain ⟨z1, e1, _⟩ := DataW.trod_int Try.underlying3 f1
            have g0 := hc 0 (by simp)
            have g1 := hc 1 (by simp)
            rw [Go.Deep.add_add] at g0 g1
            simp at e0 e1 g0 g1
            exact ⟨(z0, z1), by rw [← e0]; exact g0, by rw [← e1]; exact g1⟩
        · cases h2
    obtain ⟨y, hy⟩ := choose_lt each
    refine ⟨(List.range len).map y, by simp, hl, ⟨by simp, by unfold maxLen at hm; omega, fun _ => ⟨x, rfl, fun j p hj => ?_⟩⟩⟩
    rw [List.getElem?_map] at hj
    obtain ⟨i, hi, rfl⟩ := Option.map_eq_some_iff.1 hj
    obtain ⟨hjl, hji⟩ := List.getElem?_eq_some_iff.1 hi
    simp at hjl hji
    subst hji
    obtain ⟨e0, e1⟩ := hy j hjl
    refine ⟨[.int .i64 (y j).1, .int .i64 (y j).2], rfl, ⟨[.int .i64 (y j).1], [.int .i64 (y j).2], rfl, rfl, rfl⟩, fun i u hu => ?_⟩
    match i, hu with
    | 0, hu => simp at hu; subst hu; exact e0
    | 1, hu => simp at hu; subst hu; exact e1
end
end Go.Proofs.Ytcdpkdehogcjnaa.Print
