/- The walk of CniSilent. -/
import Derived.Test.YtcophhdlcjemeaaK9
import Derived.Shelf.Abstract
import Derived.Shelf.RegionOpen
import Derived.Deep.QuietTactic
import Derived.BigQuiet
namespace Go.Proofs.Ytcophhdlcjemeaa
open Go.RowKit Go.Shelf
set_option linter.unusedVariables false
set_option linter.unusedSimpArgs false
set_option maxRecDepth 100000 in
theorem nz1_any (v : Nat) (w : World) (hv : v < 256) : Calls Try.prog 22 #[.int .u8 v] w fun e w' => e = .returned (.bool (!decide (v = 0))) ∧ w' = w := by
  by_cases h : v = 0
  · subst h
    go_enter Try.func22, Try.ntmps22
    go_wp2_with fail
    go_ret
    exact ⟨rfl, rfl⟩
  · have d1 : ((v : Int) != 0) = true := by rw [bne_iff_ne]; omega
    have d2 : (v != 0) = true := by rw [bne_iff_ne]; exact h
    have d3 : (v == 0) = false := by rw [beq_eq_false_iff_ne]; exact h
    go_enter Try.func22, Try.ntmps22
    go_wp2_with fail
    go_ret
    exact ⟨ret_bool (by rw [decide_eq_false h]; rfl), rfl⟩
set_option maxRecDepth 100000 in
set_option maxHeartbeats 1000000 in
theorem idxZ_any (x : RY) (w : World) (hx : x.In w) (hz : ∀ v ∈ x.l, v = 0) :
    Calls Try.prog 62 #[.slice x.a x.len x.cap, .func (.func 22) #[] #[]] w fun e w' => e = .returned (.int .i64 (-1)) ∧ w' = w := by
  have eg : ∀ args w, (callFunc 22 args).run Try.prog w = .ok (.enter 22 args) w := enters_of Try.func22 (by kernel_rfl) rfl
  have hl := hx.row.1
  have h63 := Nat.le_trans hx.cap hx.max
  have HX := Lib.hid hx
  have HZ := Lib.hid hz
  clear hx hz
  obtain ⟨a, len, cap, l⟩ := x
  simp only at hl h63 HZ
  have HL := Lib.hid hl
  clear hl
  go_enter Try.func62, Try.ntmps62
  go_wp2_with fail
  go_loop [8] (fun i => ∃ k : Nat, k ≤ len ∧ i = .int .i64 k) (fun i => len - (intOf i).toNat)
  case atStart => exact ⟨0, by omega, rfl⟩
  case round =>
    obtain ⟨k, hk, rfl⟩ := hrel
    by_cases hlt : k < len
    · obtain ⟨b, off, hab, hc, -⟩ := HX.out.row.addr (show 0 < len by omega)
      simp only at hab
      subst hab
      have hc0 := hc k hlt
      have hv : l.getD k 0 = 0 := by
        rw [List.getD_eq_getElem?_getD, List.getElem?_eq_getElem (by rw [HL.out]; exact hlt)]
        exact HZ.out _ (List.getElem_mem _)
      simp only at hc0
      rw [hv] at hc0
      have hc0' : w.cell? ⟨b, off + k, none⟩ = some (.int .u8 0) := hc0
      have HN : Hid (∀ w, Calls Try.prog 22 #[.int .u8 0] w fun e w' => e = .returned (.bool false) ∧ w' = w) := Lib.hid (fun w => nz1_any 0 w (by decide))
      clear hc hv hc0
      go_wp2_with (go_at_fn 22; (with_reducible refine (HN.out _).mono ?_); rintro e w1 ⟨rfl, rfl⟩)
      go_round
      case rel => exact ⟨k + 1, by omega, by go_num⟩
      case measure => simp [intOf]; omega
    · obtain rfl : k = len := by omega
      go_wp2_with fail
      go_ret
      exact ⟨rfl, rfl⟩
set_option maxRecDepth 100000 in
set_option maxHeartbeats 1000000 in
theorem hasZ_any (x : RY) (w : World) (hx : x.In w) (hz : ∀ v ∈ x.l, v = 0) :
    Calls Try.prog 21 #[.slice x.a x.len x.cap, .func (.func 22) #[] #[]] w fun e w' => e = .returned (.bool false) ∧ w' = w := by
  have HCON := Lib.hid (idxZ_any x w hx hz)
  clear hx hz
  go_enter Try.func21, Try.ntmps21
  go_wp2_with fail
  with_reducible refine HCON.out.mono ?_
  rintro e w1 ⟨rfl, rfl⟩
  go_wp2_with fail
  go_ret
  exact ⟨rfl, rfl⟩
/-- behind k rounds without a sign -/
structure Sil (p : PCni) (dl : List Nat) (k : Nat) : Prop where
  ok : cniOk p = true
  o : p.o = dl
  life : p.life ≤ 4 - k
theorem round_ok {p : PCni} (h : cniOk p = true) : cniOk (roundP p) = true := by
  have h' := (cniOk_iff p).1 h
  obtain ⟨h1, h2, h3, h4, h5, h6⟩ := h'
  unfold roundP
  rw [h]
  simp only [cond_true]
  rw [cniOk_iff]
  simp only [List.length_map]
  refine ⟨h1, h2, h3, by omega, h5, fun m hm => ?_⟩
  obtain ⟨y, hy, rfl⟩ := List.mem_map.1 hm
  have := h6 y hy
  unfold agep
  simp only
  omega
theorem Sil.step {p : PCni} {dl : List Nat} {k : Nat} (h : Sil p dl k) (hk : k < 4) : Sil (roundP p) dl (k + 1) ∧ ownE p = 0 := by
  have h4 := ((cniOk_iff p).1 h.ok).2.2.2.1
  have hl := h.life
  refine ⟨⟨round_ok h.ok, ?_, ?_⟩, by unfold ownE; rw [h.ok]; rfl⟩
  · unfold roundP; rw [h.ok]; exact h.o
  · unfold roundP; rw [h.ok]; simp only [cond_true]; omega
theorem write_sil {p : PCni} {dl : List Nat} (h : writeE p dl = 0) : Sil (writeP p dl) dl 0 := by
  unfold writeE at h
  cases hk : cniOk p <;> rw [hk] at h
  · simp at h
  · have h' := (cniOk_iff p).1 hk
    obtain ⟨h1, h2, h3, h4, h5, h6⟩ := h'
    by_cases hd : dl.length ≤ 8
    · unfold writeP
      rw [hk, decide_eq_true hd]
      simp only [cond_true]
      exact ⟨(cniOk_iff _).2 ⟨h1, h2, hd, h4, h5, h6⟩, rfl, by simp only; omega⟩
    · rw [decide_eq_false hd] at h; simp at h
theorem beat_ok {p : PCni} (h : cniOk p = true) : cniOk (beatP p) = true ∧ (beatP p).life = 4 ∧ (beatP p).o = p.o := by
  obtain ⟨h1, h2, h3, h4, h5, h6⟩ := (cniOk_iff p).1 h
  unfold beatP
  rw [h]
  exact ⟨(cniOk_iff _).2 ⟨h1, h2, h3, by simp only [cond_true]; omega, h5, h6⟩, rfl, rfl⟩
theorem silent_facts {p : PCni} {dl : List Nat} (h : Sil p dl 4) (long : Int) : aliveP p = false ∧ ownE p = 0 ∧ aliveP (beatP p) = true ∧ sendE p long = cond (betw long 0 8) 0 2 ∧ sendE (beatP p) long = cond (betw long 0 8) 0 2 ∧
    (betw long 0 8 = true → sendP p long = List.replicate long.toNat 0 ∧ sendP (beatP p) long = over (List.replicate long.toNat 0) 0 (dl.take (min dl.length long.toNat))) := by
  have h4 := ((cniOk_iff p).1 h.ok).2.2.2.1
  have hl := h.life
  obtain ⟨b1, b2, b3⟩ := beat_ok h.ok
  have hn : ¬ 0 < p.life := by omega
  refine ⟨?_, by unfold ownE; rw [h.ok]; rfl, ?_, by unfold sendE; rw [h.ok]; rfl, by unfold sendE; rw [b1]; rfl, fun hb => ⟨?_, ?_⟩⟩
  · unfold aliveP; rw [h.ok, decide_eq_false hn]; rfl
  · unfold aliveP; rw [b1, b2]; rfl
  · unfold sendP sentL; rw [h.ok, hb, decide_eq_false hn]; rfl
  · unfold sendP sentL; rw [b1, hb, b2, b3, h.o]; rfl
theorem over_head {n m : Nat} {l : List Nat} (hm : m ≤ n) (hl : m ≤ l.length) : (over (List.replicate n 0) 0 (l.take m)).take m = l.take m := by
  unfold over
  simp only [List.take_zero, List.nil_append, Nat.zero_add]
  rw [List.take_append_of_le_length (by rw [List.length_take]; omega), List.take_take, Nat.min_self]
theorem RY.In.head {x : RY} {w : World} (h : x.In w) (m : Nat) (hm : m ≤ x.len) : RY.In ⟨x.a, m, x.cap, x.l.take m⟩ w := by
  have hl := h.row.1
  refine ⟨Nat.le_trans hm h.cap, h.max, fun v hv => h.byte v (List.mem_of_mem_take hv), by rw [List.length_take, hl]; exact Nat.min_eq_left hm, fun i hi => ?_⟩
  obtain ⟨b, off, hab, hc⟩ := h.row.2 i (Nat.lt_of_lt_of_le hi hm)
  refine ⟨b, off, hab, ?_⟩
  rw [hc]
  simp [List.getD_eq_getElem?_getD, List.getElem?_take, hi]
set_option maxRecDepth 100000 in
set_option maxHeartbeats 4000000 in
theorem cniSilent_any (c : RCni) (d : RY) (long : Int) (w : World) (hc : c.In w) (hd : d.In w) :
    Calls Try.prog 4 #[c.val, .slice d.a d.len d.cap, .int .i64 long] w fun e w' => e = .returned (.bool true) ∧ Keeps w w' := by
  have HWR := Lib.hid (write_any c d)
  have HWS := Lib.hid (@write_sil c.p d.l)
  have HC := Lib.hid hc
  have HD := Lib.hid hd
  have hdl := hd.row.1
  have hdc := hd.cap
  have hdm := hd.max
  clear hc hd
  obtain ⟨E, hE⟩ : ∃ E, E = writeE c.p d.l := ⟨_, rfl⟩
  obtain ⟨P, hP⟩ : ∃ P, P = writeP c.p d.l := ⟨_, rfl⟩
  rw [← hE, ← hP] at HWR
  rw [← hE, ← hP] at HWS
  clear hE hP
  obtain ⟨id, ⟨oa, olen, ocap, ol⟩, ia, n, cap, ms, life, want⟩ := c
  obtain ⟨da, dlen, dcap, dl⟩ := d
  simp only at hdl hdc hdm HWS
  have HDL := Lib.hid hdl
  clear hdl
  have HK := Lib.hid ((Keeps.refl w).alloc (.cells #[.int .i64 id, .slice oa olen ocap, .slice ia n cap, .int .i64 life, .int .i64 want] 39))
  show Calls Try.prog 4 #[.agg #[.int .i64 id, .slice oa olen ocap, .slice ia n cap, .int .i64 life, .int .i64 want], .slice da dlen dcap, .int .i64 long] w _
  go_enter Try.func4, Try.ntmps4
  go_wp2_with fail
  (with_reducible refine (HWR.out _ (by exact HC.out.keeps HK.out) (by exact HD.out.keeps HK.out)).mono ?_)
  rintro e w1 ⟨x, rfl, hp, ho, hk1⟩
  have HXP := Lib.hid hp
  have HXI := Lib.hid ho.isIn
  replace HK := Lib.hid (HK.out.trans hk1)
  have hCw := HK.out.size
  clear hp ho hk1 HWR HC
  obtain ⟨xid, ⟨xoa, xolen, xocap, xol⟩, xia, xn, xcap, xms, xlife, xwant⟩ := x
  have HX := Lib.hid (Box.new w1 39 #[.int .i64 xid, .slice xoa xolen xocap, .slice xia xn xcap, .int .i64 xlife, .int .i64 xwant])
  replace HXI := Lib.hid (HXI.out.keeps ((Keeps.refl _).alloc (.cells #[.int .i64 xid, .slice xoa xolen xocap, .slice xia xn xcap, .int .i64 xlife, .int .i64 xwant] 39)))
  replace HK := Lib.hid (HK.out.alloc (.cells #[.int .i64 xid, .slice xoa xolen xocap, .slice xia xn xcap, .int .i64 xlife, .int .i64 xwant] 39))
  go_wp2_with fail
  (with_reducible refine (begun12_any _).mono ?_)
  rintro e w2 ⟨rfl, hk1⟩
  replace HX := Lib.hid (HX.out.keeps hk1)
  replace HXI := Lib.hid (HXI.out.keeps hk1)
  replace HK := Lib.hid (HK.out.trans hk1)
  clear hk1
  obtain ⟨C, hC⟩ : ∃ C, C = w1.heap.size := ⟨_, rfl⟩
  rw [← hC] at HX hCw ⊢
  clear hC
  by_cases h0 : ¬ E = 0
  · have d1 : (E != 0) = true := by rw [bne_iff_ne]; exact h0
    go_wp2_with fail
    (with_reducible refine (begun12_any _).mono ?_)
    rintro e w3 ⟨rfl, hk1⟩
    replace HK := Lib.hid (HK.out.trans hk1)
    clear hk1
    go_wp2_with fail
    go_ret
    exact ⟨rfl, HK.out⟩
  replace h0 := Decidable.of_not_not h0
  subst h0
  have HSI : Hid (Sil (RCni.p ⟨xid, ⟨xoa, xolen, xocap, xol⟩, xia, xn, xcap, xms, xlife, xwant⟩) dl 0) := Lib.hid (by rw [HXP.out]; exact HWS.out rfl)
  clear HWS HXP
  go_wp2_with fail
  go_loopw [30] (fun i wr => ∃ (k : Nat) (y : RCni), k ≤ 4 ∧ i = .int .i64 k ∧ Hid (Sil y.p dl k) ∧ Hid (y.In wr) ∧ Hid (Box wr C 39 y.arr) ∧ Hid (Keeps w wr)) (fun i _ => 4 - (intOf i).toNat)
  case atStart => exact ⟨0, ⟨xid, ⟨xoa, xolen, xocap, xol⟩, xia, xn, xcap, xms, xlife, xwant⟩, by decide, rfl, HSI, HXI, HX, HK⟩
  case round =>
    clear HX HXI HK HSI
    obtain ⟨k, y, hk, rfl, HSI, HYI, HX, HK⟩ := hrel
    by_cases hlt : k < 4
    · have HRO := Lib.hid (round12_any y)
      have HST := Lib.hid (HSI.out.step hlt)
      rw [HST.out.2] at HRO
      obtain ⟨yid, ⟨yoa, yolen, yocap, yol⟩, yia, yn, ycap, yms, ylife, ywant⟩ := y
      replace HX : Hid (Box wr C 39 #[.int .i64 yid, .slice yoa yolen yocap, .slice yia yn ycap, .int .i64 ylife, .int .i64 ywant]) := HX
      have x0 := HX.out.cell 0 _ rfl
      have x1 := HX.out.cell 1 _ rfl
      have x2 := HX.out.cell 2 _ rfl
      have x3 := HX.out.cell 3 _ rfl
      have x4 := HX.out.cell 4 _ rfl
      have xl := HX.out.lt
      have xf := HX.out.frozen
      go_wp2_with fail
      (with_reducible refine (HRO.out _ (by exact HYI.out)).mono ?_)
      rintro e w3 ⟨z, rfl, hp, ho, hk1⟩
      have HZS : Hid (Sil z.p dl (k + 1)) := Lib.hid (by rw [hp]; exact HST.out.1)
      have HZO : Hid (z.Own w3 (C + 1)) := Lib.hid (ho.mono (by omega))
      replace HX := Lib.hid (HX.out.keeps hk1)
      replace HK := Lib.hid (HK.out.trans hk1)
      clear hp ho hk1 HRO HST HSI HYI x0 x1 x2 x3 x4 xl xf
      obtain ⟨zid, ⟨zoa, zolen, zocap, zol⟩, zia, zn, zcap, zms, zlife, zwant⟩ := z
      have x0 := HX.out.cell 0 _ rfl
      have x1 := HX.out.cell 1 _ rfl
      have x2 := HX.out.cell 2 _ rfl
      have x3 := HX.out.cell 3 _ rfl
      have x4 := HX.out.cell 4 _ rfl
      have xl := HX.out.lt
      have xf := HX.out.frozen
      go_wp2_with fail
      have HZI := Lib.hid (HZO.out.putC (Nat.lt_succ_self _) ⟨zid, ⟨zoa, zolen, zocap, zol⟩, zia, zn, zcap, zms, zlife, zwant⟩).isIn
      have HZB := Lib.hid (Box.putC (x := ⟨yid, ⟨yoa, yolen, yocap, yol⟩, yia, yn, ycap, yms, ylife, ywant⟩) HX.out ⟨zid, ⟨zoa, zolen, zocap, zol⟩, zia, zn, zcap, zms, zlife, zwant⟩)
      have HZK := Lib.hid (HK.out.putC hCw ⟨zid, ⟨zoa, zolen, zocap, zol⟩, zia, zn, zcap, zms, zlife, zwant⟩)
      go_roundw
      case rel => exact ⟨k + 1, ⟨zid, ⟨zoa, zolen, zocap, zol⟩, zia, zn, zcap, zms, zlife, zwant⟩, by omega, by go_num, HZS, HZI, HZB, HZK⟩
      case measure => simp [intOf]; omega
    · obtain rfl : k = 4 := by omega
      have HSF := Lib.hid (silent_facts HSI.out long)
      have HSE := Lib.hid (fun w h => by have h2 := send_any y long w h; rw [HSF.out.2.2.2.1] at h2; exact h2)
      have HBE := Lib.hid (fun w h => by have h2 := beat_any y w h; rw [HSF.out.2.1] at h2; exact h2)
      have HAL := Lib.hid (fun w h => by have h2 := alive_any y w h; rw [HSF.out.1] at h2; exact h2)
      obtain ⟨P1, hP1⟩ : ∃ P1, P1 = sendP y.p long := ⟨_, rfl⟩
      have HP1 := Lib.hid hP1
      rw [← hP1] at HSE
      clear hP1
      have HSZ : Hid (∀ (z : RCni) w, z.In w → z.p = beatP y.p → Calls Try.prog 18 #[z.val, .int .i64 long] w (BytesPost (sendP (beatP y.p) long) (cond (betw long 0 8) 0 2) w)) := Lib.hid (fun z w h hz => by have h2 := send_any z long w h; rw [hz, HSF.out.2.2.2.2.1] at h2; exact h2)
      have HAZ : Hid (∀ (z : RCni) w, z.In w → z.p = beatP y.p → Calls Try.prog 20 #[z.val] w fun e w' => e = .returned (.bool true) ∧ Keeps w w') := Lib.hid (fun z w h hz => by have h2 := alive_any z w h; rw [hz, HSF.out.2.2.1] at h2; exact h2)
      have HPP := Lib.hid (HSF.out.2.2.2.2.2)
      obtain ⟨P2, hP2⟩ : ∃ P2, P2 = sendP (beatP y.p) long := ⟨_, rfl⟩
      rw [← HP1.out, ← hP2] at HPP
      rw [← hP2] at HSZ
      have HBW := Lib.hid (fun h : betw long 0 8 = true => (betw_iff _ _ _).1 h)
      obtain ⟨B, hB⟩ : ∃ B, B = betw long 0 8 := ⟨_, rfl⟩
      rw [← hB] at HSE HSZ HPP HBW
      obtain ⟨Q, hQ⟩ : ∃ Q, Q = beatP y.p := ⟨_, rfl⟩
      rw [← hQ] at HBE HSZ HAZ
      clear hP2 hB hQ HSF HSI HP1
      obtain ⟨yid, ⟨yoa, yolen, yocap, yol⟩, yia, yn, ycap, yms, ylife, ywant⟩ := y
      replace HX : Hid (Box wr C 39 #[.int .i64 yid, .slice yoa yolen yocap, .slice yia yn ycap, .int .i64 ylife, .int .i64 ywant]) := HX
      have x0 := HX.out.cell 0 _ rfl
      have x1 := HX.out.cell 1 _ rfl
      have x2 := HX.out.cell 2 _ rfl
      have x3 := HX.out.cell 3 _ rfl
      have x4 := HX.out.cell 4 _ rfl
      have xl := HX.out.lt
      have xf := HX.out.frozen
      go_wp2_with fail
      (with_reducible refine (HSE.out _ (by exact HYI.out)).mono ?_)
      rintro e w3 ⟨b, rfl, hbl, hbi, hk1⟩
      have HBL := Lib.hid hbl
      have HBI := Lib.hid hbi
      replace HX := Lib.hid (HX.out.keeps hk1)
      replace HYI := Lib.hid (HYI.out.keeps hk1)
      replace HK := Lib.hid (HK.out.trans hk1)
      clear hk1 hbl hbi x0 x1 x2 x3 x4 xl xf
      obtain ⟨ba, blen, bcap, bl⟩ := b
      simp only at HBL HBI
      have x0 := HX.out.cell 0 _ rfl
      have x1 := HX.out.cell 1 _ rfl
      have x2 := HX.out.cell 2 _ rfl
      have x3 := HX.out.cell 3 _ rfl
      have x4 := HX.out.cell 4 _ rfl
      have xl := HX.out.lt
      have xf := HX.out.frozen
      go_wp2_with fail
      (with_reducible refine (HBE.out _ (by exact HYI.out)).mono ?_)
      rintro e w4 ⟨z, rfl, hp, ho, hk1⟩
      have HZP := Lib.hid hp
      have HZI := Lib.hid ho.isIn
      replace HX := Lib.hid (HX.out.keeps hk1)
      replace HYI := Lib.hid (HYI.out.keeps hk1)
      replace HBI := Lib.hid (HBI.out.keeps hk1)
      replace HK := Lib.hid (HK.out.trans hk1)
      clear hk1 hp ho x0 x1 x2 x3 x4 xl xf
      obtain ⟨zid, ⟨zoa, zolen, zocap, zol⟩, zia, zn, zcap, zms, zlife, zwant⟩ := z
      have hk1 := (Keeps.refl w4).alloc (.cells #[.int .i64 zid, .slice zoa zolen zocap, .slice zia zn zcap, .int .i64 zlife, .int .i64 zwant] 39)
      have HD2 := Lib.hid (Box.new w4 39 #[.int .i64 zid, .slice zoa zolen zocap, .slice zia zn zcap, .int .i64 zlife, .int .i64 zwant])
      replace HX := Lib.hid (HX.out.keeps hk1)
      replace HYI := Lib.hid (HYI.out.keeps hk1)
      replace HBI := Lib.hid (HBI.out.keeps hk1)
      replace HZI := Lib.hid (HZI.out.keeps hk1)
      replace HK := Lib.hid (HK.out.trans hk1)
      clear hk1
      go_wp2_with fail
      (with_reducible refine (HSZ.out ⟨zid, ⟨zoa, zolen, zocap, zol⟩, zia, zn, zcap, zms, zlife, zwant⟩ _ (by exact HZI.out) (by exact HZP.out)).mono ?_)
      rintro e w5 ⟨v, rfl, hvl, hvi, hk1⟩
      have HVL := Lib.hid hvl
      have HVI := Lib.hid hvi
      replace HX := Lib.hid (HX.out.keeps hk1)
      replace HYI := Lib.hid (HYI.out.keeps hk1)
      replace HBI := Lib.hid (HBI.out.keeps hk1)
      replace HZI := Lib.hid (HZI.out.keeps hk1)
      replace HD2 := Lib.hid (HD2.out.keeps hk1)
      replace HK := Lib.hid (HK.out.trans hk1)
      clear hk1 hvl hvi
      obtain ⟨va, vlen, vcap, vl⟩ := v
      simp only at HVL HVI
      have x0 := HX.out.cell 0 _ rfl
      have x1 := HX.out.cell 1 _ rfl
      have x2 := HX.out.cell 2 _ rfl
      have x3 := HX.out.cell 3 _ rfl
      have x4 := HX.out.cell 4 _ rfl
      have xl := HX.out.lt
      have xf := HX.out.frozen
      go_wp2_with fail
      (with_reducible refine (HAL.out _ (by exact HYI.out)).mono ?_)
      rintro e w6 ⟨rfl, hk1⟩
      replace HBI := Lib.hid (HBI.out.keeps hk1)
      replace HZI := Lib.hid (HZI.out.keeps hk1)
      replace HVI := Lib.hid (HVI.out.keeps hk1)
      replace HD2 := Lib.hid (HD2.out.keeps hk1)
      replace HK := Lib.hid (HK.out.trans hk1)
      clear hk1 x0 x1 x2 x3 x4 xl xf
      have x0 := HD2.out.cell 0 _ rfl
      have x1 := HD2.out.cell 1 _ rfl
      have x2 := HD2.out.cell 2 _ rfl
      have x3 := HD2.out.cell 3 _ rfl
      have x4 := HD2.out.cell 4 _ rfl
      have xl := HD2.out.lt
      have xf := HD2.out.frozen
      go_wp2_with fail
      (with_reducible refine (HAZ.out ⟨zid, ⟨zoa, zolen, zocap, zol⟩, zia, zn, zcap, zms, zlife, zwant⟩ _ (by exact HZI.out) (by exact HZP.out)).mono ?_)
      rintro e w7 ⟨rfl, hk1⟩
      replace HBI := Lib.hid (HBI.out.keeps hk1)
      replace HVI := Lib.hid (HVI.out.keeps hk1)
      replace HK := Lib.hid (HK.out.trans hk1)
      clear hk1 x0 x1 x2 x3 x4 xl xf HX HD2 HYI HZI HAL HAZ HSE HSZ HBE HZP
      cases B
      · simp only [cond_false]
        go_wp2_with fail
        go_ret
        exact ⟨rfl, HK.out⟩
      simp only [cond_true]
      have hlb := HBW.out (by first | rfl | trivial)
      have hpp := HPP.out (by first | rfl | trivial)
      obtain ⟨lg, rfl⟩ : ∃ lg : Nat, long = lg := ⟨long.toNat, by omega⟩
      have HPB : Hid (bl = List.replicate lg 0) := Lib.hid (HBL.out.trans hpp.1)
      have HPV : Hid (vl = over (List.replicate lg 0) 0 (dl.take (min dl.length lg))) := Lib.hid (HVL.out.trans hpp.2)
      clear hpp HPP HBL HVL
      have HZR : Hid (∀ x ∈ bl, x = 0) := Lib.hid (fun x hx => by rw [HPB.out] at hx; exact List.eq_of_mem_replicate hx)
      have hblen : blen = lg := by have h := HBI.out.row.1; simp only at h; rw [← h, HPB.out, List.length_replicate]
      have hvlen : vlen = lg := by
        have h := HVI.out.row.1
        simp only at h
        rw [← h, HPV.out, over_len _ _ _ (by simp; omega)]; simp
      subst hblen
      subst hvlen
      have hvc := HVI.out.cap
      have hvm := HVI.out.max
      simp only at hvc hvm
      go_wp2_with fail
      (with_reducible refine (hasZ_any ⟨ba, vlen, bcap, bl⟩ _ (by exact HBI.out) (by exact HZR.out)).mono ?_)
      rintro e w8 ⟨rfl, rfl⟩
      obtain ⟨m, hm⟩ : ∃ m, m = min dlen vlen := ⟨_, rfl⟩
      have hm1 : m ≤ dlen := by omega
      have hm2 : m ≤ vlen := by omega
      have HTK : Hid (eqY ⟨va, m, vcap, vl.take m⟩ ⟨da, m, dcap, dl.take m⟩ = true) := Lib.hid (decide_eq_true (by
        simp only
        rw [HPV.out, HDL.out, ← hm]
        exact over_head hm2 (by rw [HDL.out]; exact hm1)))
      have HEQ : Hid (∀ w', Keeps w8 w' → Calls Try.prog 23 #[.slice va m vcap, .slice da m dcap] w' fun e w'' => e = .returned (.bool true) ∧ w'' = w') := Lib.hid (fun w' hk => by
        have h := bytesEq_any ⟨va, m, vcap, vl.take m⟩ ⟨da, m, dcap, dl.take m⟩ w' ((HVI.out.keeps hk).head m hm2) ((HD.out.keeps (HK.out.trans hk)).head m hm1)
        rw [HTK.out] at h
        exact h)
      have e1 : ((vlen : Int) == (vlen : Int)) = true := beq_self_eq_true _
      have hi1 : m ≤ vcap := by omega
      have hi2 : m ≤ dcap := by omega
      by_cases hvd : vlen < dlen
      · obtain rfl : m = vlen := by omega
        clear hm
        cases va <;> cases da <;>
          ((go_wp2_with fail);
           (go_quiet ((go_at_call 23; exact Calls.quiet_of_same (HEQ.out _ ((Keeps.refl _).drewN _)))));
           (go_wp2_with fail);
           go_ret;
           exact ⟨rfl, HK.out.drewN _⟩)
      · obtain rfl : m = dlen := by omega
        clear hm
        cases va <;> cases da <;>
          ((go_wp2_with fail);
           (go_quiet ((go_at_call 23; exact Calls.quiet_of_same (HEQ.out _ ((Keeps.refl _).drewN _)))));
           (go_wp2_with fail);
           go_ret;
           exact ⟨rfl, HK.out.drewN _⟩)
end Go.Proofs.Ytcophhdlcjemeaa
