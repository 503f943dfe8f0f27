/- The walk of GuardianShut. -/
import Derived.Test.YtcophhdlcjemeaaT13
import Derived.Test.YtcophhdlcjemeaaM15
namespace Go.Proofs.Ytcophhdlcjemeaa
open Go.RowKit
set_option linter.unusedVariables false
set_option linter.unusedSimpArgs false
def shutC (s x : RSig) : Bool := decide (x.fr = s.fr) && (decide (x.lv = s.lv) && (spanIn s.f s.t x.f x.t && (decide (s.b.n = 0) || sigSame s x)))
theorem any_succ {α : Type} (f : α → Bool) (l : List α) (k : Nat) (h : k < l.length) : (l.take (k + 1)).any f = ((l.take k).any f || f l[k]) := by
  rw [List.take_succ_eq_append_getElem h, List.any_append]; simp
theorem shut_nil (xs : List RSig) : xs.filterMap (passP 0 0) = [] := by
  rw [List.filterMap_eq_nil_iff]
  intro s _
  unfold passP passOk
  have : spanMeets s.f s.t 0 0 = false := by
    cases h : spanMeets s.f s.t 0 0
    · rfl
    · have := meets_num h; omega
  rw [this]; simp
theorem open_other {m : RMedl} {c : RClk} {off id pos : Int} (h : (openRes m c off id pos).2.2 = 0) (hne : ¬ id = pos) : (openRes m c off id pos).1 = 0 ∧ (openRes m c off id pos).2.1 = 0 := by
  unfold openRes at h ⊢
  simp only [if_neg hne]
  split <;> (try split) <;> exact ⟨rfl, rfl⟩
theorem shut_one {o1 o2 : Int} {x s : RSig} (h : passP o1 o2 x = some s.p) : shutC s x = true ∧ spanIn s.f s.t o1 o2 = true := by
  obtain ⟨h1, h2, h3⟩ := pass_cases h
  have hm := meets_num h2
  have hs : sigSame s x = decide (s.p = x.p) := sigSame_p s x
  rcases h3 with ⟨h4, h5⟩ | ⟨h4, h5⟩
  · have h5' := h5
    unfold RSig.p at h5'
    simp only [Prod.mk.injEq] at h5'
    obtain ⟨e1, e2, e3, e4, -, -⟩ := h5'
    have hi := (spanIn_iff _ _ _ _).1 h4
    refine ⟨?_, by rw [e2, e3]; exact h4⟩
    unfold shutC
    rw [hs, decide_eq_true h5]
    simp only [Bool.and_eq_true, Bool.or_eq_true, decide_eq_true_eq, spanIn_iff]
    exact ⟨e1.symm, e4.symm, by omega, .inr trivial⟩
  · unfold RSig.p at h5
    simp only [Prod.mk.injEq] at h5
    obtain ⟨e1, e2, e3, e4, e5, -⟩ := h5
    refine ⟨?_, by rw [spanIn_iff]; omega⟩
    unfold shutC
    simp only [Bool.and_eq_true, Bool.or_eq_true, decide_eq_true_eq, spanIn_iff]
    exact ⟨e1.symm, e4.symm, by omega, .inl e5⟩
theorem shut_all {o1 o2 : Int} {ys xs : List RSig} (h : ys.map RSig.p = xs.filterMap (passP o1 o2)) : ∀ s ∈ ys, xs.any (shutC s) = true ∧ spanIn s.f s.t o1 o2 = true := by
  intro s hs
  have : s.p ∈ xs.filterMap (passP o1 o2) := by rw [← h]; exact List.mem_map_of_mem hs
  obtain ⟨x, hx, hp⟩ := List.mem_filterMap.1 this
  exact ⟨List.any_eq_true.2 ⟨x, hx, (shut_one hp).1⟩, (shut_one hp).2⟩
set_option maxRecDepth 100000 in
set_option maxHeartbeats 4000000 in
theorem guardianShut_any (m : RMedl) (c : RClk) (off id pos : Int) (a : Option Addr) (n cap : Nat) (xs : List RSig) (w : World) (hm : m.In w) (hc : c.In w) (hx : RSs w a n cap xs) :
    Calls Try.prog 10 #[m.val, c.val, .int .i64 off, .int .i64 id, .int .i64 pos, .slice a n cap] w fun e w' => e = .returned (.bool true) ∧ Keeps w w' := by
  have hcap := hx.hcap
  have hmax := hx.hmax
  have HX := Lib.hid (hx.take (min n 60) (Nat.min_le_left _ _))
  clear hx
  have hmin : min n 60 ≤ 60 := Nat.min_le_right _ _
  have HM := Lib.hid hm
  have HC := Lib.hid hc
  clear hm hc
  have H1 := Lib.hid (open_any m c off id pos)
  have HP := Lib.hid (@open_other m c off id pos)
  obtain ⟨⟨o1, o2, o3⟩, hR⟩ : ∃ R, R = openRes m c off id pos := ⟨_, rfl⟩
  rw [← hR] at H1 HP
  clear hR
  obtain ⟨ca, cc, hcv, hc1, hc2, hc3⟩ := HM.out.c.shape
  obtain ⟨da, dc, hdv, hd1, hd2, hd3⟩ := HC.out.d.shape
  clear hc3 hd3
  obtain ⟨no, sl, ga, wi, dr, de, cv, cs, ma, mn, mc, mxs⟩ := m
  obtain ⟨st, so, dv, ds⟩ := c
  simp only at hcv hdv hc1 hd1
  subst hcv hdv
  have HK := Lib.hid (((Keeps.refl w).alloc (.cells #[.int .i64 no, .int .i64 sl, .int .i64 ga, .int .i64 wi, .int .i64 dr, .int .i64 de, .slice ca cs.length cc, .slice ma mn mc] 25)).alloc (.cells #[.int .i64 st, .int .i64 so, .slice da ds.length dc] 28))
  show Calls Try.prog 10 #[.agg #[.int .i64 no, .int .i64 sl, .int .i64 ga, .int .i64 wi, .int .i64 dr, .int .i64 de, .slice ca cs.length cc, .slice ma mn mc], .agg #[.int .i64 st, .int .i64 so, .slice da ds.length dc], .int .i64 off, .int .i64 id, .int .i64 pos, .slice a n cap] w _
  go_enter Try.func10, Try.ntmps10
  go_wp2_with fail
  (with_reducible refine (few20_any a n cap _ hcap hmax).mono ?_)
  rintro e w1 ⟨rfl, rfl⟩
  have hcap : min n 60 ≤ cap := by omega
  obtain ⟨m, hmm⟩ : ∃ m, m = min n 60 := ⟨_, rfl⟩
  rw [← hmm] at HX hmin hcap ⊢
  clear hmm
  obtain ⟨zs, hz⟩ : ∃ zs, zs = xs.take m := ⟨_, rfl⟩
  rw [← hz] at HX
  clear hz
  have hm63 : m ≤ 9223372036854775807 := by omega
  go_wp2_with fail
  (with_reducible refine (H1.out _ (by exact HM.out.keeps HK.out) (by exact HC.out.keeps HK.out)).mono ?_)
  rintro e w1 ⟨rfl, hk1⟩
  replace HK := Lib.hid (HK.out.trans hk1)
  clear hk1 H1 HM HC
  have HB := Lib.hid (Box.new w1 30 #[.int .i64 o1, .int .i64 o2])
  replace HK := Lib.hid (HK.out.alloc (.cells #[.int .i64 o1, .int .i64 o2] 30))
  replace HX := Lib.hid (HX.out.keeps HK.out)
  go_wp2_with fail
  (with_reducible refine (begun20_any _).mono ?_)
  rintro e w2 ⟨rfl, hk1⟩
  replace HB := Lib.hid (HB.out.keeps hk1)
  replace HX := Lib.hid (HX.out.keeps hk1)
  replace HK := Lib.hid (HK.out.trans hk1)
  have hG : ∃ G, G = w1.heap.size := ⟨_, rfl⟩
  obtain ⟨G, hG⟩ := hG
  rw [← hG] at HB ⊢
  clear hk1 hG
  by_cases h3 : ¬ o3 = 0
  · have d1 : (o3 != 0) = true := by rw [bne_iff_ne]; exact h3
    go_wp2_with fail
    (with_reducible refine (begun20_any _).mono ?_)
    rintro e w3 ⟨rfl, hk1⟩
    replace HK := Lib.hid (HK.out.trans hk1)
    clear hk1
    go_wp2_with fail
    go_ret
    exact ⟨rfl, HK.out⟩
  replace h3 := Decidable.of_not_not h3
  subst h3
  have b0 := HB.out.cell 0 _ rfl
  have b1 := HB.out.cell 1 _ rfl
  have bl := HB.out.lt
  go_wp2_with fail
  (with_reducible refine (all_any o1 o2 a m cap zs _ (by exact HX.out) hmin).mono ?_)
  rintro e w1 ⟨v, ys, rfl, ho, hp, hk1⟩
  have HY := Lib.hid hp
  have HSH := Lib.hid (shut_all hp)
  obtain ⟨a2, cap2, rfl, hrs⟩ := ho.shape
  have HR := Lib.hid hrs
  have hyl : ys.length ≤ 60 := by
    have h1 := congrArg List.length hp
    have h2 := List.length_filterMap_le (passP o1 o2) zs
    rw [List.length_map] at h1
    have h3 := HX.out.len
    omega
  replace HB := Lib.hid (HB.out.keeps hk1)
  replace HX := Lib.hid (HX.out.keeps hk1)
  replace HK := Lib.hid (HK.out.trans hk1)
  clear hk1 ho hp hrs b0 b1 bl
  by_cases hid : ¬ id = pos
  · have hoo := HP.out (by first | rfl | trivial) hid
    have hy0 : ys.length = 0 := by
      have h1 := congrArg List.length HY.out
      rw [hoo.1, hoo.2, shut_nil, List.length_map] at h1
      exact h1
    have d1 : (id != pos) = true := by rw [bne_iff_ne]; exact hid
    obtain ⟨L, hL⟩ : ∃ L, L = ys.length := ⟨_, rfl⟩
    rw [← hL] at hy0 ⊢
    subst hy0
    clear hoo hL hid
    go_wp2_with fail
    go_ret
    exact ⟨rfl, HK.out⟩
  have d1 : (id != pos) = false := by rw [Decidable.of_not_not hid]; simp
  clear hid HP HY
  have hyc := HR.out.hcap
  have hym := HR.out.hmax
  go_wp2_with fail
  go_loopw [50] (fun i wr => ∃ k : Nat, k ≤ ys.length ∧ i = .int .i64 k ∧ Hid (Box wr G 30 #[.int .i64 o1, .int .i64 o2]) ∧ Hid (RSs wr a m cap zs) ∧ Hid (RSs wr a2 ys.length cap2 ys) ∧ Hid (Keeps w wr)) (fun i _ => ys.length - (intOf i).toNat)
  case atStart => exact ⟨0, Nat.zero_le _, rfl, HB, HX, HR, HK⟩
  case round =>
    clear HB HX HR HK
    obtain ⟨k, hk, rfl, HB, HX, HY, HK⟩ := hrel
    by_cases hlt : k < ys.length
    case neg =>
      go_wp2_with fail
      go_ret
      exact ⟨rfl, HK.out⟩
    obtain ⟨wo, hwo⟩ : ∃ wo : World, wo = wr := ⟨_, rfl⟩
    rw [← hwo] at HB HX HY HK ⊢
    clear hwo
    obtain ⟨b2, off2, hab, hcell⟩ := HY.out.addr (by omega)
    subst hab
    have hcell := hcell k hlt
    have HIN := Lib.hid (HY.out.isIn ys[k] (List.getElem_mem _))
    have HSK := Lib.hid (HSH.out ys[k] (List.getElem_mem _))
    obtain ⟨y, hy⟩ : ∃ y, y = ys[k] := ⟨_, rfl⟩
    rw [← hy] at hcell HIN HSK
    clear hy
    obtain ⟨sfr, sf, st_, slv, sbn, sba, sblen, sbcap, sbls⟩ := y
    have c0 := hcell 0 _ rfl
    have c1 := hcell 1 _ rfl
    have c2 := hcell 2 _ rfl
    have c3 := hcell 3 _ rfl
    have c4 := hcell 4 _ rfl
    have c5 := hcell 5 _ rfl
    clear hcell
    simp only [Nat.add_zero] at c0
    simp only at HIN HSK
    have HS := Lib.hid (Box.new wo 73 #[.int .i64 sfr, .int .i64 sf, .int .i64 st_, .int .i64 slv, .int .i64 sbn, .slice sba sblen sbcap])
    have hk1 := (Keeps.refl wo).alloc (.cells #[.int .i64 sfr, .int .i64 sf, .int .i64 st_, .int .i64 slv, .int .i64 sbn, .slice sba sblen sbcap] 73)
    replace HB := Lib.hid (HB.out.keeps hk1)
    replace HX := Lib.hid (HX.out.keeps hk1)
    replace HY := Lib.hid (HY.out.keeps hk1)
    replace HIN := Lib.hid (HIN.out.keeps hk1)
    replace HK := Lib.hid (HK.out.trans hk1)
    clear hk1
    go_wp2_with fail
    obtain ⟨g, hg⟩ : ∃ g, g = wo.heap.size := ⟨_, rfl⟩
    obtain ⟨wp, hwp⟩ : ∃ wp, wp = wo.alloc (.cells #[.int .i64 sfr, .int .i64 sf, .int .i64 st_, .int .i64 slv, .int .i64 sbn, .slice sba sblen sbcap] 73) := ⟨_, rfl⟩
    rw [← hwp, ← hg] at HS ⊢
    rw [← hwp] at HB HX HY HIN HK
    clear hg hwp c0 c1 c2 c3 c4 c5
    have HIK := Lib.hid (Keeps.refl wp)
    go_loopw [18, 56] (fun v i wr => ∃ (j : Nat) (A : Bool), j ≤ m ∧ i = .int .i64 j ∧ v = .bool A ∧ Hid (A = (zs.take j).any (shutC ⟨sfr, sf, st_, slv, sbn, sba, sblen, sbcap, sbls⟩)) ∧ Hid (Box wr G 30 #[.int .i64 o1, .int .i64 o2]) ∧ Hid (RSs wr a m cap zs) ∧ Hid (RSs wr (some ⟨b2, off2, none⟩) ys.length cap2 ys ∧ RB.In ⟨sbn, sba, sblen, sbcap, sbls⟩ wr) ∧ Hid (Box wr g 73 #[.int .i64 sfr, .int .i64 sf, .int .i64 st_, .int .i64 slv, .int .i64 sbn, .slice sba sblen sbcap]) ∧ Hid (Keeps w wr)) (fun _ i _ => m - (intOf i).toNat)
    case atStart => exact ⟨0, false, Nat.zero_le _, rfl, rfl, Lib.hid (by simp), HB, HX, Lib.hid ⟨HY.out, HIN.out⟩, HS, HK⟩
    case round =>
      clear HB HX HY HIN HS HK HIK
      obtain ⟨j, A, hj, rfl, rfl, HA, HB, HX, HY, HS, HK⟩ := hrel
      by_cases hjt : j < m
      case neg =>
        obtain rfl : j = m := by omega
        have hat : A = true := by
          rw [HA.out, List.take_of_length_le (by rw [HX.out.len]; exact Nat.le_refl _)]
          exact HSK.out.1
        subst hat
        have HIN := Lib.hid HY.out.2
        have b0 := HB.out.cell 0 _ rfl
        have b1 := HB.out.cell 1 _ rfl
        have bl := HB.out.lt
        have s0 := HS.out.cell 0 _ rfl
        have s1 := HS.out.cell 1 _ rfl
        have s2 := HS.out.cell 2 _ rfl
        have s3 := HS.out.cell 3 _ rfl
        have s4 := HS.out.cell 4 _ rfl
        have s5 := HS.out.cell 5 _ rfl
        have sl := HS.out.lt
        go_wp2_with fail
        (with_reducible refine (rwithin6_any sf st_ o1 o2 _).mono ?_)
        rw [HSK.out.2]
        rintro e w3 ⟨rfl, hk1⟩
        replace HB := Lib.hid (HB.out.keeps hk1)
        replace HX := Lib.hid (HX.out.keeps hk1)
        replace HY := Lib.hid (HY.out.1.keeps hk1)
        replace HK := Lib.hid (HK.out.trans hk1)
        clear hk1 b0 b1 bl s0 s1 s2 s3 s4 s5 sl
        go_wp2_with fail
        go_roundw
        case rel => exact ⟨k + 1, by omega, by go_num, HB, HX, HY, HK⟩
        case measure => simp [intOf]; omega
      have hzl := HX.out.len
      obtain ⟨b, off_, hab, hcell⟩ := HX.out.addr (by omega)
      subst hab
      have hk' : j < zs.length := by omega
      have hcell := hcell j hk'
      have HIX := Lib.hid (HX.out.isIn zs[j] (List.getElem_mem _))
      have HAN := Lib.hid (any_succ (shutC ⟨sfr, sf, st_, slv, sbn, sba, sblen, sbcap, sbls⟩) zs j hk')
      obtain ⟨y, hy⟩ : ∃ y, y = zs[j] := ⟨_, rfl⟩
      rw [← hy] at hcell HIX HAN
      clear hy hk' hzl
      obtain ⟨xfr, xf, xt, xlv, xbn, xba, xblen, xbcap, xbls⟩ := y
      have c0 := hcell 0 _ rfl
      have c1 := hcell 1 _ rfl
      have c2 := hcell 2 _ rfl
      have c3 := hcell 3 _ rfl
      have c4 := hcell 4 _ rfl
      have c5 := hcell 5 _ rfl
      clear hcell
      simp only [Nat.add_zero] at c0
      simp only at HIX
      have s0 := HS.out.cell 0 _ rfl
      have s1 := HS.out.cell 1 _ rfl
      have s2 := HS.out.cell 2 _ rfl
      have s3 := HS.out.cell 3 _ rfl
      have s4 := HS.out.cell 4 _ rfl
      have s5 := HS.out.cell 5 _ rfl
      have sl := HS.out.lt
      have hk1 := (Keeps.refl wr).alloc (.cells #[.int .i64 xfr, .int .i64 xf, .int .i64 xt, .int .i64 xlv, .int .i64 xbn, .slice xba xblen xbcap] 73)
      have HSX := Lib.hid (Box.new wr 73 #[.int .i64 xfr, .int .i64 xf, .int .i64 xt, .int .i64 xlv, .int .i64 xbn, .slice xba xblen xbcap])
      replace HB := Lib.hid (HB.out.keeps hk1)
      replace HX := Lib.hid (HX.out.keeps hk1)
      replace HY := Lib.hid (show _ ∧ _ from ⟨HY.out.1.keeps hk1, HY.out.2.keeps hk1⟩)
      replace HIX := Lib.hid (HIX.out.keeps hk1)
      replace HS := Lib.hid (HS.out.keeps hk1)
      replace HK := Lib.hid (HK.out.trans hk1)
      clear hk1
      cases A
      case true =>
        have HE : Hid (true = (zs.take (j + 1)).any (shutC ⟨sfr, sf, st_, slv, sbn, sba, sblen, sbcap, sbls⟩)) := Lib.hid (by rw [HAN.out, ← HA.out]; rfl)
        clear HAN HA
        go_wp2_with fail
        go_roundw
        case rel => exact ⟨j + 1, true, by omega, by go_num, rfl, HE, HB, HX, HY, HS, HK⟩
        case measure => simp [intOf]; omega
      have HSC : Hid (shutC ⟨sfr, sf, st_, slv, sbn, sba, sblen, sbcap, sbls⟩ ⟨xfr, xf, xt, xlv, xbn, xba, xblen, xbcap, xbls⟩ = (decide (xfr = sfr) && (decide (xlv = slv) && (spanIn sf st_ xf xt && (decide (sbn = 0) || sigSame ⟨sfr, sf, st_, slv, sbn, sba, sblen, sbcap, sbls⟩ ⟨xfr, xf, xt, xlv, xbn, xba, xblen, xbcap, xbls⟩))))) := Lib.hid rfl
      by_cases t1 : ¬ xfr = sfr
      · have e1 : (xfr == sfr) = false := by rw [beq_eq_false_iff_ne]; exact t1
        have HF := Lib.hid (decide_eq_false t1)
        have HE : Hid (false = (zs.take (j + 1)).any (shutC ⟨sfr, sf, st_, slv, sbn, sba, sblen, sbcap, sbls⟩)) := Lib.hid (by rw [HAN.out, ← HA.out, HSC.out, HF.out]; rfl)
        clear HAN HA
        go_wp2_with fail
        go_roundw
        case rel => exact ⟨j + 1, false, by omega, by go_num, rfl, HE, HB, HX, HY, HS, HK⟩
        case measure => simp [intOf]; omega
      have e1 : (xfr == sfr) = true := by rw [Decidable.of_not_not t1]; exact beq_self_eq_true _
      have HF1 := Lib.hid (decide_eq_true (Decidable.of_not_not t1))
      clear t1
      by_cases t2 : ¬ xlv = slv
      · have e2 : (xlv == slv) = false := by rw [beq_eq_false_iff_ne]; exact t2
        have HF := Lib.hid (decide_eq_false t2)
        have HE : Hid (false = (zs.take (j + 1)).any (shutC ⟨sfr, sf, st_, slv, sbn, sba, sblen, sbcap, sbls⟩)) := Lib.hid (by rw [HAN.out, ← HA.out, HSC.out, HF1.out, HF.out]; rfl)
        clear HAN HA
        go_wp2_with fail
        go_roundw
        case rel => exact ⟨j + 1, false, by omega, by go_num, rfl, HE, HB, HX, HY, HS, HK⟩
        case measure => simp [intOf]; omega
      have e2 : (xlv == slv) = true := by rw [Decidable.of_not_not t2]; exact beq_self_eq_true _
      have HF2 := Lib.hid (decide_eq_true (Decidable.of_not_not t2))
      clear t2
      have HW := Lib.hid (rwithin6_any sf st_ xf xt)
      obtain ⟨P, hP⟩ : ∃ P, P = spanIn sf st_ xf xt := ⟨_, rfl⟩
      rw [← hP] at HW HSC
      clear hP
      go_wp2_with fail
      (with_reducible refine (HW.out _).mono ?_)
      rintro e w3 ⟨rfl, hk1⟩
      replace HB := Lib.hid (HB.out.keeps hk1)
      replace HX := Lib.hid (HX.out.keeps hk1)
      replace HY := Lib.hid (show _ ∧ _ from ⟨HY.out.1.keeps hk1, HY.out.2.keeps hk1⟩)
      replace HIX := Lib.hid (HIX.out.keeps hk1)
      replace HS := Lib.hid (HS.out.keeps hk1)
      replace HSX := Lib.hid (HSX.out.keeps hk1)
      replace HK := Lib.hid (HK.out.trans hk1)
      clear hk1 c0 c1 c2 c3 c4 c5 s0 s1 s2 s3 s4 s5 sl
      have s0 := HS.out.cell 0 _ rfl
      have s1 := HS.out.cell 1 _ rfl
      have s2 := HS.out.cell 2 _ rfl
      have s3 := HS.out.cell 3 _ rfl
      have s4 := HS.out.cell 4 _ rfl
      have s5 := HS.out.cell 5 _ rfl
      have sl := HS.out.lt
      have x0 := HSX.out.cell 0 _ rfl
      have x1 := HSX.out.cell 1 _ rfl
      have x2 := HSX.out.cell 2 _ rfl
      have x3 := HSX.out.cell 3 _ rfl
      have x4 := HSX.out.cell 4 _ rfl
      have x5 := HSX.out.cell 5 _ rfl
      have xl := HSX.out.lt
      cases P
      case false =>
        have HE : Hid (false = (zs.take (j + 1)).any (shutC ⟨sfr, sf, st_, slv, sbn, sba, sblen, sbcap, sbls⟩)) := Lib.hid (by rw [HAN.out, ← HA.out, HSC.out, HF1.out, HF2.out]; rfl)
        clear HAN HA
        go_wp2_with fail
        go_roundw
        case rel => exact ⟨j + 1, false, by omega, by go_num, rfl, HE, HB, HX, HY, HS, HK⟩
        case measure => simp [intOf]; omega
      by_cases t3 : sbn = 0
      · have e3 : (sbn == 0) = true := by rw [t3]; rfl
        have HF3 := Lib.hid (decide_eq_true t3)
        clear t3
        have HE : Hid (true = (zs.take (j + 1)).any (shutC ⟨sfr, sf, st_, slv, sbn, sba, sblen, sbcap, sbls⟩)) := Lib.hid (by rw [HAN.out, ← HA.out, HSC.out, HF1.out, HF2.out, HF3.out]; rfl)
        clear HAN HA
        go_wp2_with fail
        go_roundw
        case rel => exact ⟨j + 1, true, by omega, by go_num, rfl, HE, HB, HX, HY, HS, HK⟩
        case measure => simp [intOf]; omega
      have e3 : (sbn == 0) = false := by rw [beq_eq_false_iff_ne]; exact t3
      have HF3 := Lib.hid (decide_eq_false t3)
      clear t3
      have HW2 := Lib.hid (rsigsame_any ⟨sfr, sf, st_, slv, sbn, sba, sblen, sbcap, sbls⟩ ⟨xfr, xf, xt, xlv, xbn, xba, xblen, xbcap, xbls⟩)
      obtain ⟨Q, hQ⟩ : ∃ Q, Q = sigSame ⟨sfr, sf, st_, slv, sbn, sba, sblen, sbcap, sbls⟩ ⟨xfr, xf, xt, xlv, xbn, xba, xblen, xbcap, xbls⟩ := ⟨_, rfl⟩
      rw [← hQ] at HW2 HSC
      clear hQ
      go_wp2_with fail
      (with_reducible refine (HW2.out _ (by exact HY.out.2) (by exact HIX.out)).mono ?_)
      rintro e w4 ⟨rfl, hk1⟩
      replace HB := Lib.hid (HB.out.keeps hk1)
      replace HX := Lib.hid (HX.out.keeps hk1)
      replace HY := Lib.hid (show _ ∧ _ from ⟨HY.out.1.keeps hk1, HY.out.2.keeps hk1⟩)
      replace HS := Lib.hid (HS.out.keeps hk1)
      replace HK := Lib.hid (HK.out.trans hk1)
      clear hk1 s0 s1 s2 s3 s4 s5 sl x0 x1 x2 x3 x4 x5 xl HW2
      cases Q
      case false =>
        have HE : Hid (false = (zs.take (j + 1)).any (shutC ⟨sfr, sf, st_, slv, sbn, sba, sblen, sbcap, sbls⟩)) := Lib.hid (by rw [HAN.out, ← HA.out, HSC.out, HF1.out, HF2.out, HF3.out]; rfl)
        clear HAN HA
        go_wp2_with fail
        go_roundw
        case rel => exact ⟨j + 1, false, by omega, by go_num, rfl, HE, HB, HX, HY, HS, HK⟩
        case measure => simp [intOf]; omega
      case true =>
        have HE : Hid (true = (zs.take (j + 1)).any (shutC ⟨sfr, sf, st_, slv, sbn, sba, sblen, sbcap, sbls⟩)) := Lib.hid (by rw [HAN.out, ← HA.out, HSC.out, HF1.out, HF2.out, HF3.out]; rfl)
        clear HAN HA
        go_wp2_with fail
        go_roundw
        case rel => exact ⟨j + 1, true, by omega, by go_num, rfl, HE, HB, HX, HY, HS, HK⟩
        case measure => simp [intOf]; omega
end Go.Proofs.Ytcophhdlcjemeaa
