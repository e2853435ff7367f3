/- DiskMoment: for every number of blocks, list of numbers, list of lists of records and list of pairs of numbers the statement answers true, and all read afterwards as before; without condition. -/
import Derived.Test.YtcdpkdehogcjnaaRH
import Derived.Test.YtcdpkdehogcjnaaRD
import Derived.Test.YtcdpkdehogcjnaaRF
import Derived.Deep.DeepCutAuto
import Derived.Deep.CutBlock
import Derived.BigQuiet
import Derived.Deep.QuietTactic
import Derived.Deep.RegionWith
import Derived.Test.YtcdpkdehogcjnaaRows
import Derived.WalkKit
import Derived.ProofKit
import Derived.OpenShut
import Derived.ShutString
import Derived.ChangeOld
import Derived.Below
import Derived.SizedLaws
set_option linter.unusedVariables false
set_option linter.unusedSimpArgs false
/-! The walk of DiskMoment's law (printed by wip/dev/genmoment.py). -/
namespace Go.Proofs.Ytcdpkdehogcjnaa.Print
open Go Go.RowKit Go.Deep Go.Proofs.YtcdpkdehogcjnaaW.PrintWords Go.Proofs.YtcdpkdehogcjnaaW.PrintLast Go.Proofs.YtcdpkdehogcjnaaW.PrintMore

def kRows : Kd (List S62) := Kd.slice 62 k62
def kCut : Kd (Int × Int) := Kd.pair (Kd.int .i64) (Kd.int .i64)
theorem rows_P {w : World} {A : Option Addr} {l : List (List S62)} (h : Kd.C kRows w A l.length l) (i : Nat) (hi : i < l.length) :
    ∃ ad A0 c0 x, A = some ad ∧ l[i]? = some x ∧ w.cell? (ad.add i) = some (.slice A0 x.length c0) ∧ x.length ≤ c0 ∧ Kd.C k62 w A0 x.length x := by
  obtain ⟨ad, c, e, _, hK, hc0⟩ := Kd.C_get h ([] : List S62) (i : Int) (by omega) (by omega)
  have hc : ∀ j u, c[j]? = some u → w.cell? (ad.add ((i : Int).toNat * 1 + j)) = some u := hc0
  obtain ⟨A0, c0, rfl, l0, g0⟩ := hK
  have hx : l[i]? = some (l.getD (i : Int).toNat []) := by
    rw [List.getElem?_eq_getElem hi]
    simp [List.getD_eq_getElem?_getD, List.getElem?_eq_getElem hi]
  exact ⟨ad, A0, c0, _, e, hx, by have hq := hc 0 _ rfl; simpa using hq, l0, g0⟩
theorem cut_at {w : World} {A : Option Addr} {l : List (Int × Int)} (h : Kd.C kCut w A l.length l) (i : Nat) (hi : i < l.length) :
    ∃ ad, A = some ad ∧ ∃ x0 x1, w.cell? (ad.add (i * 2)) = some (.int .i64 x0) ∧ w.cell? ⟨(ad.add (i * 2)).block, (ad.add (i * 2)).off + 1, none⟩ = some (.int .i64 x1) := by
  obtain ⟨h1, h2, h3⟩ := h
  obtain ⟨ad, e, hc⟩ := h3 (by omega)
  obtain ⟨cs, _, hk, hcell⟩ := hc i l[i] (List.getElem?_eq_getElem hi)
  obtain ⟨k1, k2, rfl, hk1, hk2⟩ := hk
  have hk1 : k1 = [.int .i64 l[i].1] := hk1
  have hk2 : k2 = [.int .i64 l[i].2] := hk2
  subst hk1 hk2
  exact ⟨ad, e, _, _, hcell 0 _ rfl, by rw [← add_field _ _ 1 (by omega)]; exact hcell 1 _ rfl⟩
theorem ws_facts {xs : List Int} {j : Nat} {st : HSt} (h : diskF xs = some (j, st)) {bs : List Int} (hok : writesOk (xs.length / 64) st.ver bs = true) {ws : List S34} (hws : ws = writesF j st.ver (freeL st.used 2 (xs.length / 64 - 2)) bs) :
    1 ≤ ws.length ∧ ws.length ≤ 129 ∧ ∀ (k : Nat) (x : S34), ws[k]? = some x → x.f1.length = 64 := by
  obtain ⟨m, F, f, ph, W⟩ := writes_facts h hok
  rw [← hws] at W
  have hm := W.many
  rw [W.eq, List.length_append, writesL_len, List.length_singleton]
  refine ⟨by omega, by omega, fun k x hx => ?_⟩
  rcases List.mem_append.1 (List.mem_of_getElem? hx) with h | h
  · unfold writesL at h
    obtain ⟨q, _, rfl⟩ := List.mem_map.1 h
    exact putAt_len _ _ _
  · rw [List.mem_singleton.1 h]
    exact W.len
theorem open_inv {xs : List Int} {now : List S62} {ver : Int} (h : Inv xs now ver) : disk_Open.f xs = some (now, 0) ∧ disk_Version.f xs = some (ver, 0) ∧ 1 ≤ ver ∧ ver ≤ 1099511627776 ∧ now.length ≤ 8000 := by
  obtain ⟨j, st, hd, rfl, rfl, _⟩ := h.disk
  obtain ⟨_, _, _, _, _, h1, h2, _⟩ := disk_facts hd
  refine ⟨?_, ?_, h1, h2, disk_recs hd⟩
  · unfold disk_Open.f
    rw [if_pos h.bytes, hd]
  · unfold disk_Version.f
    rw [if_pos h.bytes, hd]
def FitsAll (rs : List (List S62)) : Prop := ∀ l ∈ rs, l.length * 32 ≤ 140737488351232 ∧ ∀ x ∈ l, RecFits x
def MoRel (w : World) (n : Nat) (u10 u12 u13 u14 : Value) (wr : World) : Prop :=
  ∃ (i : Nat) (xs : List Int) (now : List S62) (ver : Int) (A : Option Addr) (c : Nat) (A' : Option Addr) (c' : Nat), u14 = .int .i64 i ∧ u10 = .slice A xs.length c ∧ u12 = .slice A' now.length c' ∧ u13 = .int .i64 ver ∧ i ≤ n ∧ xs.length ≤ c ∧ now.length ≤ c' ∧
    Aside0 (Kd.C (Kd.int .u8) wr A xs.length xs) ∧ Aside0 (Kd.C k62 wr A' now.length now) ∧ Aside0 (Inv xs now ver) ∧ Aside0 (∀ x ∈ now, IsBytes x.f1) ∧ Aside0 (Below w.heap.size w wr)

set_option maxRecDepth 100000 in
set_option maxHeartbeats 16000000 in
theorem moment_walk (a0 : Int) (A1 : Option Addr) (c1 : Nat) (ks : List Int) (A2 : Option Addr) (c2 : Nat) (rs : List (List S62)) (A3 : Option Addr) (c3 : Nat) (cu : List (Int × Int)) (w : World)
    (hr1 : Kd.C (Kd.int .i64) w A1 ks.length ks) (hc1 : ks.length ≤ c1) (hr2 : Kd.C kRows w A2 rs.length rs) (hc2 : rs.length ≤ c2) (hr3 : Kd.C kCut w A3 cu.length cu) (hc3 : cu.length ≤ c3) (hF : FitsAll rs) :
    Calls Try.prog 6 #[.int .i64 a0, .slice A1 ks.length c1, .slice A2 rs.length c2, .slice A3 cu.length c3] w fun e w' => e = .returned (.bool true) ∧ Below w.heap.size w w' := by
  have HK := Aside0.mk hr1
  have HS := Aside0.mk hr2
  have HC := Aside0.mk hr3
  have HF := Aside0.mk hF
  clear hr1 hr2 hr3 hF
  go_enter Try.func6, Try.ntmps6
  go_wp2_with fail
  refine (beryllaw20_awake.calls true w rfl).mono ?_
  rintro e w1 ⟨rfl, hB⟩
  have HW : Aside0 (Below w.heap.size w w1) := ⟨hB⟩
  clear hB
  by_cases hb : 8 ≤ a0 ∧ a0 ≤ 256
  rotate_left
  · have HFM : Aside0 (disk_Format.f a0 = some ([], 1)) := ⟨by unfold disk_Format.f; rw [if_neg hb]⟩
    clear hb
    go_wp2_with fail
    refine (disk_Format.calls a0 [] 1 w1 HFM.out).mono ?_
    rintro e w2 ⟨v, rfl, hR, hB⟩
    replace HW : Aside0 (Below w.heap.size w w2) := ⟨HW.out.trans (hB.mono HW.out.size)⟩
    clear hR hB
    go_wp2_with fail
    go_returns
    exact ⟨rfl, HW.out⟩
  obtain ⟨xs0, hxs0⟩ : ∃ xs0, xs0 = formatL a0 := ⟨_, rfl⟩
  have HFM : Aside0 (disk_Format.f a0 = some (xs0, 0)) := ⟨by unfold disk_Format.f; rw [if_pos hb, hxs0]⟩
  have HI0 : Aside0 (Inv xs0 [] 1) := ⟨by rw [hxs0]; exact format_inv a0 hb.1 hb.2⟩
  clear hb hxs0
  go_wp2_with fail
  refine (disk_Format.calls a0 xs0 0 w1 HFM.out).mono ?_
  rintro e w2 ⟨v, rfl, hR, hB⟩
  obtain ⟨A0, c0, rfl⟩ := Kd.R_slice hR
  obtain ⟨_, hc0, hC0⟩ := Kd.R_reads' hR
  have HX0 := Aside0.mk hC0
  replace HW : Aside0 (Below w.heap.size w w2) := ⟨HW.out.trans (hB.mono HW.out.size)⟩
  clear hR hB hC0
  by_cases t20 : (20 : Int) < (ks.length : Int)
  · have d20 : decide ((20 : Int) < (ks.length : Int)) = true := decide_eq_true t20
    clear t20
    as_aux_lemma =>
      go_wp2_with fail
      go_returns
      exact ⟨rfl, HW.out⟩
  have d20 : decide ((20 : Int) < (ks.length : Int)) = false := decide_eq_false t20
  have hk20 : ks.length ≤ 20 := by omega
  clear t20
  by_cases trs : rs.length < ks.length
  · have drs : decide (rs.length < ks.length) = true := decide_eq_true trs
    clear trs
    as_aux_lemma =>
      go_wp2_with fail
      go_returns
      exact ⟨rfl, HW.out⟩
  have drs : decide (rs.length < ks.length) = false := decide_eq_false trs
  by_cases tcu : cu.length < ks.length
  · have dcu : decide (cu.length < ks.length) = true := decide_eq_true tcu
    clear tcu trs
    as_aux_lemma =>
      go_wp2_with fail
      go_returns
      exact ⟨rfl, HW.out⟩
  have dcu : decide (cu.length < ks.length) = false := decide_eq_false tcu
  have HLEN := Aside0.mk (⟨hk20, by omega, by omega⟩ : ks.length ≤ 20 ∧ ks.length ≤ rs.length ∧ ks.length ≤ cu.length)
  clear trs tcu hk20
  go_wp2_with fail
  refine (disk_Version.calls A0 c0 xs0 1 0 w2 HX0.out hc0 (open_inv HI0.out).2.1).mono ?_
  rintro e w3 ⟨rfl, hB⟩
  replace HX0 := Aside0.mk (Kd.C_below HX0.out hB)
  replace HW : Aside0 (Below w.heap.size w w3) := ⟨HW.out.trans (hB.mono HW.out.size)⟩
  clear hB d20 drs dcu
  go_wp2_with fail
  go_loopw [10, 12, 13, 14] (fun u10 u12 u13 u14 wr => MoRel w ks.length u10 u12 u13 u14 wr) (fun _ _ _ u14 _ => ks.length - (intOf u14).toNat)
  case atStart => exact ⟨0, xs0, [], 1, A0, c0, none, 0, rfl, rfl, rfl, rfl, by omega, hc0, Nat.le_refl _, HX0, ⟨Kd.C_nil _ _⟩, HI0, ⟨fun x hx => by cases hx⟩, HW⟩
  case round =>
    clear HX0 HI0 HW HFM hc0
    obtain ⟨i, xs, now, ver, A, c, A', c', rfl, rfl, rfl, rfl, hi, hc, hc', HX, HN, HI, HNB, HB⟩ := hrel
    by_cases hlt : i < ks.length
    rotate_left
    · have hd : decide (i < ks.length) = false := decide_eq_false hlt
      go_wp2_with fail
      go_returns
      exact ⟨rfl, HB.out⟩
    have hd : decide (i < ks.length) = true := decide_eq_true hlt
    have hi9 : i ≤ 20 := by have := HLEN.out.1; omega
    obtain ⟨adk, kv, rfl, hkv, _⟩ := cellN (Kd.C_below HK.out HB.out) i hlt (Nat.le_refl _)
    obtain ⟨adr, Al, cl, rl, rfl, hrl, hrv, hcl, hCl⟩ := rows_P (Kd.C_below HS.out HB.out) i (by have := HLEN.out.2.1; omega)
    obtain ⟨adc, rfl, cu0, cu1, hcv0, hcv1⟩ := cut_at (Kd.C_below HC.out HB.out) i (by have := HLEN.out.2.2; omega)
    have hri : i < rs.length := by have := HLEN.out.2.1; omega
    have hci : i < cu.length := by have := HLEN.out.2.2; omega
    have hfit := HF.out rl (List.mem_of_getElem? hrl)
    have HLB := Aside0.mk (fits_bytes hfit.2)
    obtain ⟨fw, hfew, hbnd⟩ := few_f [] rl hfit.1 hfit.2
    have HFW := Aside0.mk (hfew (rl.length + 1) (Nat.lt_succ_self _))
    have HBD := Aside0.mk hbnd
    have HCL := Aside0.mk hCl
    clear hfit hfew hbnd hCl hrl
    go_wp2_with fail
    refine (beryllaw20_few.calls (rl.length + 1) none 0 [] Al cl rl fw wr (Kd.C_nil _ _) (Nat.le_refl _) HCL.out hcl HFW.out).mono ?_
    rintro e w' ⟨rfl, ⟨nd, rfl⟩⟩
    obtain ⟨w2, hwN⟩ : ∃ w2, w2 = wr.drewN nd := ⟨_, rfl⟩
    have hB : Below wr.heap.size wr w2 := by rw [hwN]; exact pw_below_drewN (Below.refl _ _) _
    rw [← hwN]
    replace hkv := (hB.cell (World.block_lt_of_cell? wr _ hkv)).trans hkv
    replace hrv := (hB.cell (World.block_lt_of_cell? wr _ hrv)).trans hrv
    replace hcv0 := (hB.cell (World.block_lt_of_cell? wr _ hcv0)).trans hcv0
    replace hcv1 := (hB.cell (World.block_lt_of_cell? wr _ hcv1)).trans hcv1
    replace HX := Aside0.mk (Kd.C_below HX.out hB)
    replace HN := Aside0.mk (Kd.C_below HN.out hB)
    replace HCL := Aside0.mk (Kd.C_below HCL.out hB)
    replace HB : Aside0 (Below w.heap.size w w2) := ⟨HB.out.trans (hB.mono HB.out.size)⟩
    clear hwN hB
    cases fw with
    | false =>
      as_aux_lemma =>
        go_wp2_with fail
        go_returns
        exact ⟨rfl, HB.out⟩
    | true =>
    have HBD2 := Aside0.mk (HBD.out rfl)
    clear HBD
    obtain ⟨j, st, hdk, hrec, hver, hside⟩ := HI.out.disk
    have HDK := Aside0.mk hdk
    have HREC := Aside0.mk hrec
    have HVER := Aside0.mk hver
    have HSIDE := Aside0.mk hside
    have HSM : Aside0 ((recsB rl).length ≤ 70368744177664) := ⟨by have := HBD2.out.2.1; have := HBD2.out.2.2; rw [recs_len]; omega⟩
    clear hdk hrec hver hside
    go_upto_region 14 with fail
    go_cut [15, 16, 17] (fun v15 v16 v17 wx => ∃ (Aw : Option Addr) (cw : Nat) (ws : List S34) (Ab : Option Addr) (cb : Nat) (beh : List S62) (er : Int), v15 = .slice Aw ws.length cw ∧ v16 = .slice Ab beh.length cb ∧ v17 = .int .i64 er ∧ ws.length ≤ cw ∧ beh.length ≤ cb ∧ Aside0 (Kd.C k34 wx Aw ws.length ws) ∧ Aside0 (Kd.C k62 wx Ab beh.length beh) ∧ Aside0 (ChOk xs j st beh ws er) ∧ Aside0 (Below w2.heap.size w2 wx))
    case first =>
        go_region_with (go_at_call 34; refine (change_walk A c xs A' c' now kv Al cl rl _ (Kd.C_drew HX.out) hc (Kd.C_drew HN.out) hc' (Kd.C_drew HCL.out) hcl HI.out.bytes HDK.out HREC.out HNB.out HLB.out HBD2.out.2.1 HSM.out).mono ?_; rintro e w3 ⟨vw, Ab, cb, beh, ws, er, rfl, hcb, hCb, hRw, hch, hB⟩; obtain ⟨Aw, cw, rfl⟩ := Kd.R_slice hRw; have HCB := Aside0.mk hCb; have HRW := Aside0.mk hRw; have HCH := Aside0.mk hch; have HB3 := Aside0.mk hB; clear hCb hRw hch hB)
        all_goals
          go_wp2_with fail
          go_meet
          case rel => exact ⟨Aw, cw, ws, Ab, cb, beh, er, rfl, rfl, rfl, (Kd.R_reads' HRW.out).2.1, hcb, ⟨(Kd.R_reads' HRW.out).2.2⟩, HCB, HCH, ⟨(Below.drew (Below.refl _ _)).trans HB3.out⟩⟩
    case rest =>
      as_aux_lemma =>
        obtain ⟨Aw, cw, ws, Ab, cb, beh, er, rfl, rfl, rfl, hcw, hcb, HWS, HCB, HCH, HB3⟩ := hcut
        replace hcv0 := (HB3.out.cell (World.block_lt_of_cell? w2 _ hcv0)).trans hcv0
        replace hcv1 := (HB3.out.cell (World.block_lt_of_cell? w2 _ hcv1)).trans hcv1
        replace HX := Aside0.mk (Kd.C_below HX.out HB3.out)
        replace HN := Aside0.mk (Kd.C_below HN.out HB3.out)
        replace HB : Aside0 (Below w.heap.size w wc) := ⟨HB.out.trans (HB3.out.mono HB.out.size)⟩
        clear hkv hrv HCL HB3
        rcases HCH.out with her | ⟨rfl, ha, hbb, hok, hws⟩
        · as_aux_lemma =>
            have dec : (er != 0) = true := by rw [bne_iff_ne]; exact her
            clear her
            go_wp2_with fail
            go_roundw
            case measure => simp [intOf]; omega
            case rel => exact ⟨i + 1, xs, now, ver, A, c, A', c', by go_num, rfl, rfl, rfl, by omega, hc, hc', HX, HN, HI, HNB, HB⟩
        obtain ⟨hl1, hl129, h64⟩ := ws_facts HDK.out hok hws
        have HTS := Aside0.mk (torn_step HI.out.bytes HDK.out HREC.out HVER.out HSIDE.out ha hbb hok hws)
        have HBB := Aside0.mk hbb
        have H64 := Aside0.mk h64
        have dl0 : ((ws.length : Int) == 0) = false := by rw [beq_eq_false_iff_ne]; omega
        obtain ⟨hv1, hv2⟩ : 1 ≤ ver ∧ ver ≤ 1099511627776 := ⟨(open_inv HI.out).2.2.1, (open_inv HI.out).2.2.2.1⟩
        obtain ⟨p, hp, hp0, hp1⟩ := pick_f cu0 ((ws.length : Int) + 1) (by omega) (by omega)
        obtain ⟨wn, rfl⟩ := Int.eq_ofNat_of_zero_le hp0
        have HP := Aside0.mk hp
        have hwn : wn ≤ ws.length := by omega
        have t5 : ((ver + 1) == ver) = false := by rw [beq_eq_false_iff_ne]; omega
        have t6 : (ver == (ver + 1)) = false := by rw [beq_eq_false_iff_ne]; omega
        clear ha hbb hok hws h64 hp hp0 hp1 HCH
        go_wp2_with fail
        refine (beryllaw20_pick.calls cu0 ((ws.length : Int) + 1) (wn : Int) wc HP.out).mono ?_
        rintro e w' ⟨rfl, ⟨nd, rfl⟩⟩
        obtain ⟨w4, hwN⟩ : ∃ w4, w4 = wc.drewN nd := ⟨_, rfl⟩
        have hB : Below wc.heap.size wc w4 := by rw [hwN]; exact pw_below_drewN (Below.refl _ _) _
        rw [← hwN]
        replace hcv0 := (hB.cell (World.block_lt_of_cell? wc _ hcv0)).trans hcv0
        replace hcv1 := (hB.cell (World.block_lt_of_cell? wc _ hcv1)).trans hcv1
        replace HX := Aside0.mk (Kd.C_below HX.out hB)
        replace HN := Aside0.mk (Kd.C_below HN.out hB)
        replace HWS := Aside0.mk (Kd.C_below HWS.out hB)
        replace HCB := Aside0.mk (Kd.C_below HCB.out hB)
        replace HB : Aside0 (Below w.heap.size w w4) := ⟨HB.out.trans (hB.mono HB.out.size)⟩
        clear hwN hB HP hcv0
        go_upto_region 20 with fail
        go_cut [119] (fun v119 wx => v119 = .bool (decide (wn < ws.length)) ∧ wx = w4)
        case first =>
          as_aux_lemma =>
            by_cases hwl : wn < ws.length
            rotate_left
            · have dw : decide (wn < ws.length) = false := decide_eq_false hwl
              go_wp2_with fail
              go_simp
              go_meet
              case rel => exact ⟨by rw [dw], rfl⟩
            have dw : decide (wn < ws.length) = true := decide_eq_true hwl
            obtain ⟨adw, Ap, cp, xw, rfl, hxw, _, g1, hcp, _⟩ := put_at HWS.out wn hwl
            rw [H64.out wn xw hxw] at g1 hcp
            clear hxw
            go_wp2_with fail
            go_simp
            go_meet
            case rel => exact ⟨by rw [dw], rfl⟩
        case rest =>
          obtain ⟨rfl, hcw4⟩ := hcut
          rw [hcw4]
          clear hcw4
          go_upto_if 119 with fail
          go_cut [19] (fun v19 wx => ∃ (pt : Int) (pn : Nat), v19 = .int .i64 pt ∧ Aside0 (pt = (pn : Nat)) ∧ 0 ≤ pt ∧ pt ≤ 64 ∧ (wn = ws.length → pt = 0) ∧ Aside0 (Below w4.heap.size w4 wx))
          case first =>
            as_aux_lemma =>
              by_cases hwl : wn < ws.length
              rotate_left
              · have dw : decide (wn < ws.length) = false := decide_eq_false hwl
                go_wp2_with fail
                go_simp
                go_meet
                case rel => exact ⟨0, 0, rfl, ⟨rfl⟩, by omega, by omega, fun _ => rfl, ⟨Below.refl _ _⟩⟩
              have dw : decide (wn < ws.length) = true := decide_eq_true hwl
              obtain ⟨adw, Ap, cp, xw, rfl, hxw, _, g1, hcp, _⟩ := put_at HWS.out wn hwl
              rw [H64.out wn xw hxw] at g1 hcp
              obtain ⟨pt, hp, hp0, hp1⟩ := pick_f cu1 65 (by omega) (by omega)
              obtain ⟨pn, hpn⟩ := Int.eq_ofNat_of_zero_le hp0
              have HPN : Aside0 (pt = (pn : Nat)) := ⟨hpn⟩
              have hq : ∀ n, Calls Try.prog 12 #[.int .i64 cu1, .int .i64 65] (w4.drewN n) (fun e w' => e = .returned (.int .i64 pt) ∧ ∃ m, w' = (w4.drewN n).drewN m) := fun n => (beryllaw20_pick.calls cu1 65 pt (w4.drewN n) hp).mono (fun e w' h => ⟨h.1, by obtain ⟨_, ⟨m, hm⟩⟩ := h; exact ⟨m, hm⟩⟩)
              have HQ := Aside0.mk hq
              have hpl : pt ≤ 64 := by omega
              clear hpn hp hq hp1 hxw
              go_wp2_with fail
              go_quiet ((go_at_call 12; exact Calls.quiet_of (HQ.out _)))
              go_wp2_with fail
              go_simp
              go_meet
              case rel => exact ⟨pt, pn, rfl, HPN, hp0, hpl, fun h => by omega, ⟨pw_below_drewN (Below.refl _ _) _⟩⟩
          case rest =>
            obtain ⟨pt, pn, rfl, HPN, hp0, hpl, hpw, HB5⟩ := hcut
            obtain ⟨w5, hw5⟩ : ∃ w5, w5 = wc := ⟨_, rfl⟩
            rw [← hw5] at HB5 ⊢
            replace HX := Aside0.mk (Kd.C_below HX.out HB5.out)
            replace HN := Aside0.mk (Kd.C_below HN.out HB5.out)
            replace HWS := Aside0.mk (Kd.C_below HWS.out HB5.out)
            replace HCB := Aside0.mk (Kd.C_below HCB.out HB5.out)
            replace HB : Aside0 (Below w.heap.size w w5) := ⟨HB.out.trans (HB5.out.mono HB.out.size)⟩
            clear hw5 HB5 hcv1
            obtain ⟨ys, hT, hI⟩ := HTS.out wn pn hwn (by have := HPN.out; omega) (fun h => by have := hpw h; have := HPN.out; omega)
            rw [← HPN.out] at hT
            have HT := Aside0.mk hT
            clear hT HTS
            by_cases hdone : wn = ws.length ∨ (wn + 1 = ws.length ∧ pn = 64)
            · as_aux_lemma =>
                rw [if_pos hdone] at hI
                have HI2 := Aside0.mk hI
                have HDN := Aside0.mk hdone
                have HO := Aside0.mk (open_inv HI2.out)
                clear hI hdone
                go_wp2_with fail
                refine (disk_Torn.calls A c xs Aw cw ws (wn : Int) pt ys 0 w5 HX.out hc HWS.out hcw HT.out).mono ?_
                rintro e w6 ⟨v, rfl, hR, hB⟩
                obtain ⟨Ay, cy, rfl⟩ := Kd.R_slice hR
                obtain ⟨_, hcy, hC⟩ := Kd.R_reads' hR
                have HY := Aside0.mk hC
                replace HCB := Aside0.mk (Kd.C_below HCB.out hB)
                replace HWS := Aside0.mk (Kd.C_below HWS.out hB)
                replace HB : Aside0 (Below w.heap.size w w6) := ⟨HB.out.trans (hB.mono HB.out.size)⟩
                clear hR hB hC HX HT
                go_wp2_with fail
                refine (disk_Open.calls Ay cy ys beh 0 w6 HY.out hcy HO.out.1).mono ?_
                rintro e w7 ⟨v, rfl, hR, hB⟩
                obtain ⟨An, cn, rfl⟩ := Kd.R_slice hR
                obtain ⟨_, hcn, hC⟩ := Kd.R_reads' hR
                have HLN := Aside0.mk hC
                replace HCB := Aside0.mk (Kd.C_below HCB.out hB)
                replace HWS := Aside0.mk (Kd.C_below HWS.out hB)
                replace HY := Aside0.mk (Kd.C_below HY.out hB)
                replace HB : Aside0 (Below w.heap.size w w7) := ⟨HB.out.trans (hB.mono HB.out.size)⟩
                clear hR hB hC
                go_wp2_with fail
                refine (disk_Version.calls Ay cy ys (ver + 1) 0 w7 HY.out hcy HO.out.2.1).mono ?_
                rintro e w8 ⟨rfl, hB⟩
                replace HCB := Aside0.mk (Kd.C_below HCB.out hB)
                replace HWS := Aside0.mk (Kd.C_below HWS.out hB)
                replace HY := Aside0.mk (Kd.C_below HY.out hB)
                replace HLN := Aside0.mk (Kd.C_below HLN.out hB)
                replace HB : Aside0 (Below w.heap.size w w8) := ⟨HB.out.trans (hB.mono HB.out.size)⟩
                clear hB
                go_upto_region 27 with fail
                go_cut [26] (fun v26 wx => v26 = .bool true ∧ wx = w8)
                case first =>
                  as_aux_lemma =>
                    have hdn := HDN.out
                    have hpn := HPN.out
                    rcases hdn with h1 | ⟨h1, h2⟩
                    · have t1 : ((wn : Int) == (ws.length : Int)) = true := by rw [beq_iff_eq]; omega
                      clear h1 hpn
                      go_wp2_with fail
                      go_simp
                      go_meet
                      case rel => exact ⟨rfl, rfl⟩
                    · have t1 : ((wn : Int) == (ws.length : Int)) = false := by rw [beq_eq_false_iff_ne]; omega
                      have t2 : ((wn : Int) == (ws.length : Int) - 1) = true := by rw [beq_iff_eq]; omega
                      have t3 : (pt == 64) = true := by rw [beq_iff_eq]; omega
                      have hwl : wn < ws.length := by omega
                      obtain ⟨adw, Ap, cp, xw, rfl, hxw, _, g1, hcp, _⟩ := put_at HWS.out wn (by omega)
                      rw [H64.out wn xw hxw] at g1 hcp
                      clear hxw
                      clear h1 h2 hpn
                      go_wp2_with fail
                      go_simp
                      go_meet
                      case rel => exact ⟨rfl, rfl⟩
                case rest =>
                  obtain ⟨rfl, hcw8⟩ := hcut
                  rw [hcw8]
                  clear hcw8
                  go_wp2_with fail
                  refine (berylref20_SameRecords.calls (beh.length + 1) An cn beh Ab cb beh true w8 HLN.out hcn HCB.out hcb (same_recs beh (by have := HO.out.2.2.2.2; omega) _ (Nat.lt_succ_self _))).mono ?_
                  rintro e w' ⟨rfl, ⟨nd, rfl⟩⟩
                  obtain ⟨w9, hwN⟩ : ∃ w9, w9 = w8.drewN nd := ⟨_, rfl⟩
                  have hB : Below w8.heap.size w8 w9 := by rw [hwN]; exact pw_below_drewN (Below.refl _ _) _
                  rw [← hwN]
                  replace HY := Aside0.mk (Kd.C_below HY.out hB)
                  replace HLN := Aside0.mk (Kd.C_below HLN.out hB)
                  replace HB : Aside0 (Below w.heap.size w w9) := ⟨HB.out.trans (hB.mono HB.out.size)⟩
                  clear hwN hB
                  go_wp2_with fail
                  go_roundw
                  case measure => simp [intOf]; omega
                  case rel => exact ⟨i + 1, ys, beh, (ver + 1), Ay, cy, An, cn, by go_num, rfl, rfl, rfl, by omega, hcy, hcn, HY, HLN, HI2, HBB, HB⟩
            · as_aux_lemma =>
                rw [if_neg hdone] at hI
                have HI2 := Aside0.mk hI
                have HDN := Aside0.mk hdone
                have HO := Aside0.mk (open_inv HI2.out)
                clear hI hdone
                go_wp2_with fail
                refine (disk_Torn.calls A c xs Aw cw ws (wn : Int) pt ys 0 w5 HX.out hc HWS.out hcw HT.out).mono ?_
                rintro e w6 ⟨v, rfl, hR, hB⟩
                obtain ⟨Ay, cy, rfl⟩ := Kd.R_slice hR
                obtain ⟨_, hcy, hC⟩ := Kd.R_reads' hR
                have HY := Aside0.mk hC
                replace HN := Aside0.mk (Kd.C_below HN.out hB)
                replace HWS := Aside0.mk (Kd.C_below HWS.out hB)
                replace HB : Aside0 (Below w.heap.size w w6) := ⟨HB.out.trans (hB.mono HB.out.size)⟩
                clear hR hB hC HX HT
                go_wp2_with fail
                refine (disk_Open.calls Ay cy ys now 0 w6 HY.out hcy HO.out.1).mono ?_
                rintro e w7 ⟨v, rfl, hR, hB⟩
                obtain ⟨An, cn, rfl⟩ := Kd.R_slice hR
                obtain ⟨_, hcn, hC⟩ := Kd.R_reads' hR
                have HLN := Aside0.mk hC
                replace HN := Aside0.mk (Kd.C_below HN.out hB)
                replace HWS := Aside0.mk (Kd.C_below HWS.out hB)
                replace HY := Aside0.mk (Kd.C_below HY.out hB)
                replace HB : Aside0 (Below w.heap.size w w7) := ⟨HB.out.trans (hB.mono HB.out.size)⟩
                clear hR hB hC
                go_wp2_with fail
                refine (disk_Version.calls Ay cy ys ver 0 w7 HY.out hcy HO.out.2.1).mono ?_
                rintro e w8 ⟨rfl, hB⟩
                replace HN := Aside0.mk (Kd.C_below HN.out hB)
                replace HWS := Aside0.mk (Kd.C_below HWS.out hB)
                replace HY := Aside0.mk (Kd.C_below HY.out hB)
                replace HLN := Aside0.mk (Kd.C_below HLN.out hB)
                replace HB : Aside0 (Below w.heap.size w w8) := ⟨HB.out.trans (hB.mono HB.out.size)⟩
                clear hB
                go_upto_region 27 with fail
                go_cut [26] (fun v26 wx => v26 = .bool false ∧ wx = w8)
                case first =>
                  as_aux_lemma =>
                    have hdn := HDN.out
                    have hpn := HPN.out
                    have t1 : ((wn : Int) == (ws.length : Int)) = false := by rw [beq_eq_false_iff_ne]; intro h; exact hdn (.inl (by omega))
                    by_cases h1 : wn + 1 = ws.length
                    · have t2 : ((wn : Int) == (ws.length : Int) - 1) = true := by rw [beq_iff_eq]; omega
                      have t3 : (pt == 64) = false := by rw [beq_eq_false_iff_ne]; intro h; exact hdn (.inr ⟨h1, by omega⟩)
                      have hwl : wn < ws.length := by omega
                      obtain ⟨adw, Ap, cp, xw, rfl, hxw, _, g1, hcp, _⟩ := put_at HWS.out wn (by omega)
                      rw [H64.out wn xw hxw] at g1 hcp
                      clear hxw
                      clear h1 hdn hpn
                      go_wp2_with fail
                      go_simp
                      go_meet
                      case rel => exact ⟨rfl, rfl⟩
                    · have t2 : ((wn : Int) == (ws.length : Int) - 1) = false := by rw [beq_eq_false_iff_ne]; omega
                      clear h1 hdn hpn
                      go_wp2_with fail
                      go_simp
                      go_meet
                      case rel => exact ⟨rfl, rfl⟩
                case rest =>
                  obtain ⟨rfl, hcw8⟩ := hcut
                  rw [hcw8]
                  clear hcw8
                  go_upto_region 28 with fail
                  go_cut [27] (fun v27 wx => ∃ bg : Bool, v27 = .bool bg ∧ wx = w8)
                  case first =>
                    as_aux_lemma =>
                      by_cases h1 : wn + 1 = ws.length
                      · have t2 : ((wn : Int) == (ws.length : Int) - 1) = true := by rw [beq_iff_eq]; omega
                        clear h1
                        go_wp2_with fail
                        go_simp
                        go_meet
                        case rel => exact ⟨_, rfl, rfl⟩
                      · have t2 : ((wn : Int) == (ws.length : Int) - 1) = false := by rw [beq_eq_false_iff_ne]; omega
                        clear h1
                        go_wp2_with fail
                        go_simp
                        go_meet
                        case rel => exact ⟨_, rfl, rfl⟩
                  case rest =>
                    obtain ⟨bg, rfl, hcw8⟩ := hcut
                    rw [hcw8]
                    clear hcw8
                    go_wp2_with fail
                    refine (berylref20_SameRecords.calls (now.length + 1) An cn now A' c' now true w8 HLN.out hcn HN.out hc' (same_recs now (by have := HO.out.2.2.2.2; omega) _ (Nat.lt_succ_self _))).mono ?_
                    rintro e w' ⟨rfl, ⟨nd, rfl⟩⟩
                    obtain ⟨w9, hwN⟩ : ∃ w9, w9 = w8.drewN nd := ⟨_, rfl⟩
                    have hB : Below w8.heap.size w8 w9 := by rw [hwN]; exact pw_below_drewN (Below.refl _ _) _
                    rw [← hwN]
                    replace HY := Aside0.mk (Kd.C_below HY.out hB)
                    replace HLN := Aside0.mk (Kd.C_below HLN.out hB)
                    replace HB : Aside0 (Below w.heap.size w w9) := ⟨HB.out.trans (hB.mono HB.out.size)⟩
                    clear hwN hB
                    cases bg with
                    | true =>
                      as_aux_lemma =>
                        go_wp2_with fail
                        go_roundw
                        case measure => simp [intOf]; omega
                        case rel => exact ⟨i + 1, ys, now, ver, Ay, cy, An, cn, by go_num, rfl, rfl, rfl, by omega, hcy, hcn, HY, HLN, HI2, HNB, HB⟩
                    | false =>
                      as_aux_lemma =>
                        go_wp2_with fail
                        go_roundw
                        case measure => simp [intOf]; omega
                        case rel => exact ⟨i + 1, ys, now, ver, Ay, cy, An, cn, by go_num, rfl, rfl, rfl, by omega, hcy, hcn, HY, HLN, HI2, HNB, HB⟩
end Go.Proofs.Ytcdpkdehogcjnaa.Print

namespace Go.Proofs.Ytcdpkdehogcjnaa.diskMoment
open Go Go.ChangeShapes Go.WideShapes Go.ChangeAt Go.RowKit Go.Proofs.Ytcdpkdehogcjnaa.Print
open Go.Proofs.YtcdpkdehogcjnaaW.PrintWords
theorem own : ownKnob Try.prog.godebug = none := by kernel_rfl
theorem laidOut : laidOutB Try.prog = true := by kernel_rfl

theorem small {H : Type} {ts : List TypeId} {ds : List (DataW H)} (hsz : (DataW.weightsEach Try.prog ts ds).all (· ≤ reachBytes) = true) {j : Nat} {t : TypeId} {d : DataW H} (ht : ts[j]? = some t) (hd : ds[j]? = some d) : ∀ n ∈ d.weights Try.prog t, n ≤ reachBytes := by
  intro n hn
  have := List.all_eq_true.1 hsz _ (DataW.weights_mem_each ht hd n hn)
  simpa using this

theorem bytes_of (xs : List Int) (h : ∀ b ∈ xs, (Lit.int .u8 b).wf = true) : IsBytes xs := by
  intro b hb
  have := h b hb
  simp [Lit.wf, IntKind.min, IntKind.max, IntKind.signed, IntKind.bits] at this
  omega

set_option maxRecDepth 100000 in
theorem lifted (os : Os) (started : os.Started) (H : Type) (enc : TypeId × Value → H) :
    ReturnsInHanded {} Try.checked os 6 .any (Rows.diskMomentSpec.pre6 enc Try.prog Try.f6 Rows.diskMomentRow.domain false) (Rows.diskMomentSpec.post enc Try.prog Try.f6 false true false false) := by
  refine returnsInHanded_of_change_sized (C := Try.checked) own started (by kernel_rfl) Try.func6
    (ChangeSpec.witness6 (enc := enc) (C := Try.checked) false ⟨#[], #[.int .i64 0, .slice none 0 0, .slice none 0 0, .slice none 0 0], []⟩ 8 (by kernel_rfl) (by kernel_rfl) (by kernel_rfl) (by kernel_rfl)) ?_
  intro W base args ds gs before hval0 hW hcnd hsz0 _
  have hsz : (DataW.weightsEach Try.prog (Try.f6.params.toList ++ Rows.diskMomentSpec.plain.varTypes Try.prog) (ds ++ gs)).all (· ≤ reachBytes) = true := hsz0
  have hval : ∀ (j : Nat) t v, Try.f6.params[j]? = some t → args[j]? = some v → Value.okWide Try.prog W .any base t v := hval0
  have hW' := hW
  obtain ⟨p, q, hA0, hV, rfl, hfz, hnd⟩ := hW
  have hA : DataW.TrodAll enc Try.prog W 0 (fun _ => true) true Try.f6.params.toList args.toList ds p := hA0
  rw [Try.params6] at hA hval hsz
  obtain ⟨v0, vs0, d0, ds0, p0, q0, hargs, rfl, rfl, h0, r0⟩ := trodAll_cons hA
  obtain ⟨v1, vs1, d1, ds1, p1, q1, rfl, rfl, rfl, h1, r1⟩ := trodAll_cons r0
  obtain ⟨v2, vs2, d2, ds2, p2, q2, rfl, rfl, rfl, h2, r2⟩ := trodAll_cons r1
  obtain ⟨v3, vs3, d3, ds3, p3, q3, rfl, rfl, rfl, h3, r3⟩ := trodAll_cons r2
  obtain ⟨rfl, rfl, rfl⟩ := trodAll_nil r3
  obtain rfl : args = #[v0, v1, v2, v3] := by cases args; simp_all
  obtain ⟨rfl, rfl⟩ := trodVars_none hV
  obtain ⟨a0, rfl, rfl, rfl, w0⟩ := open_int Try.underlying3 (hval 0 3 v0 rfl rfl) h0
  obtain ⟨a1, len1, cap1, rfl⟩ := okWide_slice Try.underlying26 (hval 1 26 v1 rfl rfl)
  obtain ⟨a2, len2, cap2, rfl⟩ := okWide_slice Try.underlying54 (hval 2 54 v2 rfl rfl)
  obtain ⟨a3, len3, cap3, rfl⟩ := okWide_slice Try.underlying55 (hval 3 55 v3 rfl rfl)
  have k1 := h1
  have lt1 : ∀ x ∈ p1, x.block < W.heap.size := by obtain ⟨m, hm⟩ := k1; exact DataW.trod_lt m _ _ _ hm
  have k2 := h2
  have lt2 : ∀ x ∈ p2, x.block < W.heap.size := by obtain ⟨m, hm⟩ := k2; exact DataW.trod_lt m _ _ _ hm
  have k3 := h3
  have lt3 : ∀ x ∈ p3, x.block < W.heap.size := by obtain ⟨m, hm⟩ := k3; exact DataW.trod_lt m _ _ _ hm
  obtain ⟨l1, e1, hc1, hr1, hz1, hw1⟩ := lift_ints h1 (small hsz (j := 1) rfl rfl)
  subst e1
  obtain ⟨l2, e2, hc2, hr2, hw2⟩ := lift_rows h2 (small hsz (j := 2) rfl rfl)
  subst e2
  obtain ⟨l3, e3, hc3, hr3⟩ := lift_cuts h3
  subst e3
  clear hA0 hval0 hsz0 hsz
  refine (moment_walk a0 a1 cap1 l1 a2 cap2 l2 a3 cap3 l3 W hr1 hc1 hr2 hc2 hr3 hc3  hw2 ).mono fun e W' ⟨he, bel⟩ => ?_
  subst he
  exact ⟨_, rfl, _, _, _, [], _, [], hW', trodAll_mk1 (shut_bool Try.underlying4 _), (trodAll_cons_mk (shut_int Try.underlying3 w0) (trodAll_cons_mk (Below.trod laidOut (by kernel_rfl) (of_decide_eq_true (by kernel_rfl)) k1 bel lt1) (trodAll_cons_mk (Below.trod laidOut (by kernel_rfl) (of_decide_eq_true (by kernel_rfl)) k2 bel lt2) (trodAll_cons_mk (Below.trod laidOut (by kernel_rfl) (of_decide_eq_true (by kernel_rfl)) k3 bel lt3) trodAll_mk0)))), rfl, bel.frame _, fun h => by cases h⟩
theorem over : Rows.diskMomentRow.holds Try.pinned (OpenSpec.ofChange Rows.diskMomentSpec) :=
  OpenClaim.holds_of_wide 6 Try.f6 rfl rfl rfl rfl rfl rfl rfl ⟨rfl, rfl, rfl, rfl, rfl⟩ rfl rfl rfl rfl rfl (by kernel_rfl) Try.func6 (by kernel_rfl)
    (of_decide_eq_true (by kernel_rfl)) (by unfold Func.isWrapper; first | (rw [if_pos (by decide +kernel)]; kernel_rfl) | (rw [if_neg (by decide +kernel)]; exact ⟨rfl, rfl⟩))
    (fun os started H enc _ => lifted os started H enc)
theorem proved : Rows.DiskMomentSaid := over
#print axioms proved
end Go.Proofs.Ytcdpkdehogcjnaa.diskMoment
namespace Go.Proofs.Ytcdpkdehogcjnaa
/-- The row, under a short name, for the claim. -/
theorem diskMoment_holds : Rows.DiskMomentSaid := diskMoment.proved
end Go.Proofs.Ytcdpkdehogcjnaa
