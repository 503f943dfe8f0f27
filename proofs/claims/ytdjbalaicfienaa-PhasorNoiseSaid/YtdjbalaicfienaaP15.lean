/- The walks of layer 3, 10: the reference's Match. -/
import Derived.Test.YtdjbalaicfienaaP11
import Derived.Test.YtdjbalaicfienaaLater
import Derived.BigQuiet
import Derived.Deep.DeepCutAuto
import Derived.Deep.RegionHeld3
namespace Go.Proofs.Ytdjbalaicfienaa
open Go.RowKit
set_option linter.unusedVariables false
set_option linter.unusedSimpArgs false
theorem Box.putS {w : World} {b t : Nat} {c : Array Value} (h : Box w b t c) (i : Nat) (v : Value) : Box (w.setCell ⟨b, i, none⟩ v) b t (c.setIfInBounds i v) := heap_setCell_same w b i c t v h
theorem Box.other {w : World} {b t g : Nat} {c : Array Value} (h : Box w b t c) (hb : b ≠ g) (i : Nat) (v : Value) : Box (w.setCell ⟨g, i, none⟩ v) b t c := h.keepsBut (KeepsBut.setCell _ _ _ _) hb
theorem SRow.other {w : World} {a : Option Addr} {n cap g : Nat} {xs : List Smp} (h : SRow w a n cap xs) (hb : ∀ x, a = some x → x.block ≠ g) (i : Nat) (v : Value) : SRow (w.setCell ⟨g, i, none⟩ v) a n cap xs := h.keepsBut (KeepsBut.setCell _ _ _ _) (fun _ => hb)
section
variable {P : Program} {ops : Array Oper} {md : Region.Mode} {S : World → Prop}
/-- an operation that yields is taken first -/
theorem take_opS {Q : Exit → Act → World → Prop} {i : Nat} {oi : Oper} {fuel : Nat} {listed : Array Bool} {a : Act} {w : World} (hi : ops[i]? = some oi)
    (h : Region.noSelect ops = true ∧ Region.free md ops listed i = true ∧ (Region.ready md ops listed).contains i = true ∧ ∃ v, (∀ c a w, Q (.panic c) (a.put oi.dst v) w → Q (.panic c) a w) ∧ YieldsIf P ops S oi v a ∧ S w ∧ wpAnyH P md ops Q S fuel (listed.setIfInBounds i true) (a.put oi.dst v) w) : wpAnyH P md ops Q S (fuel + 1) listed a w := by
  obtain ⟨h1, h2, h3, v, h4, h5, h6, h7⟩ := h
  exact wpAnyH_take hi h1 h2 h3 h4 h5 h6 h7
theorem ready_opS {Q : Exit → Act → World → Prop} {fuel : Nat} {listed : Array Bool} {a : Act} {w : World} {i : Nat} {o : Oper} (ho : ops[i]? = some o)
    (h : ∀ K' : Act → World → Prop, Shut (∀ a w, S w → (S w → wpAnyH P md ops Q S fuel (listed.setIfInBounds i true) a w) → K' a w) → if Region.wanted o (yielded ops a.tmps) = true then Oper.wp P o a w K' Q else K' (a.put o.dst undef) w) : AllReadyH P md ops Q S fuel listed a w [i] :=
  AllReadyH.cons ho h AllReadyH.nil
end
theorem pre_apart {w : World} {pa : Option Addr} {b : Nat} (h : SRow w pa 8 8 preS) (hb : Box w b 63 #[.int .i64 0, .int .i64 0]) : ∀ x, pa = some x → x.block ≠ b := by
  intro x hx e
  obtain ⟨pb, po, hab, -, hcell⟩ := h.addr (by decide)
  rw [hab] at hx
  cases hx
  simp only at e
  subst e
  have h0 := (hcell 0 (by decide)).1
  unfold Box at hb
  simp only [World.cell?, hb, Option.bind_some, Nat.zero_mul, Nat.add_zero] at h0
  have hp : (preS[0]'(by decide)).i = 1 := rfl
  rw [hp] at h0
  match po, h0 with
  | 0, h0 => simp at h0
  | 1, h0 => simp at h0
  | po + 2, h0 => simp at h0
set_option maxRecDepth 100000 in
set_option maxHeartbeats 2000000 in
theorem rmatch_out (a : Option Addr) (n cap : Nat) (xs : List Smp) (at_ : Int) (w : World) (hx : SRow w a n cap xs) (h : matchOk n at_ = false) (hb : -9223372036854775808 ≤ at_) (hn : n ≤ 100000) :
    Calls Try.prog 52 #[.slice a n cap, .int .i64 at_] w fun e w' => MRes w w' e (matchRes xs at_) := by
  have HR := Lib.hid (matchRes_no xs at_ (by rw [hx.len, h]; rfl))
  simp only [matchOk, Bool.and_eq_false_iff, decide_eq_false_iff_not] at h
  have hd : decide (at_ < 0) = true ∨ (decide (at_ < 0) = false ∧ decide ((n : Int) - 8 < at_) = true) := by
    by_cases h0 : at_ < 0
    · left; simpa using h0
    · right; exact ⟨by simpa using h0, by simp; omega⟩
  clear h hx
  rcases hd with d1 | ⟨d1, d2⟩
  all_goals
    go_enter Try.func52, Try.ntmps52
    go_wp2_with fail
    refine bodyPost_ret (v := .tuple #[.agg #[.int .i64 0, .int .i64 0], .int .i64 0, .bool false]) (by simp [results, Try.results52, go_sem, *]) rfl ⟨by rw [HR.out], ?_⟩
    repeat (with_reducible refine Keeps.setCell ?_ (by first | (simp; done) | (simp; omega) | exact Nat.le_refl _) _)
    exact (Keeps.refl w).alloc _
set_option maxRecDepth 100000 in
set_option maxHeartbeats 2000000 in
theorem rmatch_bad (a : Option Addr) (n cap : Nat) (xs : List Smp) (t : Nat) (w : World) (hx : SRow w a n cap xs) (h1 : t + 8 ≤ n) (h : allB (partS xs t (t + 8)) = false) (hn : n ≤ 100000) :
    Calls Try.prog 52 #[.slice a n cap, .int .i64 t] w fun e w' => MRes w w' e (matchRes xs t) := by
  have HR := Lib.hid (matchRes_no xs t (by rw [Int.toNat_natCast, h, Bool.and_false]))
  obtain ⟨a', cap', e1, hsub⟩ := sub_lh a n cap t (t + 8) (t : Int) ((t : Int) + 8) rfl (by omega) (by omega) h1 hx.hcap
  have HS := Lib.hid (hsub _ _ (hx.keeps ((Keeps.refl w).alloc (.cells #[.int .i64 0, .int .i64 0] 63))))
  have e2 : t + 8 - t = 8 := by omega
  rw [e2] at HS
  rw [e2] at e1
  have d1 : decide ((t : Int) < 0) = false := decide_eq_false (by omega)
  have d2 : decide ((n : Int) - 8 < t) = false := by simp; omega
  have H := Lib.hid h
  clear h hx hsub e2
  go_enter Try.func52, Try.ntmps52
  go_wp2_with fail
  with_reducible refine (mays_any a' 8 cap' _ _ (by exact HS.out)).mono ?_
  rw [H.out]
  rintro e w1 ⟨rfl, hk1⟩
  have hb := (Box.new w 63 #[.int .i64 0, .int .i64 0]).keeps hk1
  have z0 := hb.cell 0 _ rfl
  have z1 := hb.cell 1 _ rfl
  have zf := hb.frozen
  have zl := hb.lt
  go_wp2_with fail
  refine bodyPost_ret (v := .tuple #[.agg #[.int .i64 0, .int .i64 0], .int .i64 0, .bool false]) (by simp [results, Try.results52, go_sem, *]) rfl ⟨by rw [HR.out], ?_⟩
  repeat (with_reducible refine Keeps.setCell ?_ (by first | (simp; done) | (simp; omega) | exact Nat.le_refl _) _)
  exact hk1.unbox
set_option maxRecDepth 100000 in
set_option maxHeartbeats 8000000 in
theorem rmatch_ok (a : Option Addr) (n cap : Nat) (xs : List Smp) (t : Nat) (w : World) (hx : SRow w a n cap xs) (h1 : t + 8 ≤ n) (h : allB (partS xs t (t + 8)) = true) (hn : n ≤ 100000) :
    Calls Try.prog 52 #[.slice a n cap, .int .i64 t] w fun e w' => MRes w w' e (matchRes xs t) := by
  have hxl := hx.len
  have hcap := hx.hcap
  have hmax := hx.hmax
  have HX := Lib.hid hx
  obtain ⟨ys, hy⟩ : ∃ ys, ys = partS xs t (t + 8) := ⟨_, rfl⟩
  have HR := Lib.hid (matchRes_yes xs t ys hy (by omega) (by rw [hy]; exact h))
  have HYG : Hid (∀ k (hk : k < 8), ys.getD k ⟨0, 0⟩ = xs[t + k]'(by omega)) := Lib.hid (fun k hk => by
    have hpl := partS_len xs t (t + 8) (by omega)
    rw [hy, List.getD_eq_getElem?_getD, List.getElem?_eq_getElem (by omega)]
    exact partS_get xs t (t + 8) k _ (by omega))
  obtain ⟨a', cap', e1, hsub⟩ := sub_lh a n cap t (t + 8) (t : Int) ((t : Int) + 8) rfl (by omega) (by omega) h1 hx.hcap
  have HS := Lib.hid (hsub _ _ (hx.keeps ((Keeps.refl w).alloc (.cells #[.int .i64 0, .int .i64 0] 63))))
  have e2 : t + 8 - t = 8 := by omega
  rw [e2] at HS
  rw [e2] at e1
  rw [← hy] at HS h
  have HAB := Lib.hid (getD_abs h)
  have HCA := Lib.hid (corr_abs h)
  have HPA := Lib.hid (pow_abs h)
  obtain ⟨R, hR⟩ : ∃ R, R = matchRes xs t := ⟨_, rfl⟩
  rw [← hR] at HR ⊢
  have d1 : decide ((t : Int) < 0) = false := decide_eq_false (by omega)
  have d2 : decide ((n : Int) - 8 < t) = false := by simp; omega
  have H := Lib.hid h
  clear h hx hsub e2 hR hy
  go_enter Try.func52, Try.ntmps52
  go_wp2_with fail
  with_reducible refine (mays_any a' 8 cap' _ _ (by exact HS.out)).mono ?_
  rw [H.out]
  rintro e w1 ⟨rfl, hk1⟩
  have HZ := Lib.hid (((Box.new w 63 #[.int .i64 0, .int .i64 0]).keeps hk1).next (.cells #[.int .i64 0, .int .i64 0] 63))
  have HC := Lib.hid (Box.new w1 63 #[.int .i64 0, .int .i64 0])
  have HK := Lib.hid (hk1.unbox.alloc (.cells #[.int .i64 0, .int .i64 0] 63))
  have hzc : w.heap.size < w1.heap.size := hk1.box_lt
  clear hk1 e1 HS
  go_wp2_with fail
  with_reducible refine (rpreamble_any _).mono ?_
  rintro e w2 ⟨pa, rfl, hpr, hk2⟩
  have hpb : ∀ x, pa = some x → x.block ≠ w1.heap.size := pre_apart hpr (HC.out.keeps hk2)
  have HP := Lib.hid hpr
  replace HZ := Lib.hid (HZ.out.keeps hk2)
  replace HC := Lib.hid (HC.out.keeps hk2)
  replace HK := Lib.hid (HK.out.trans hk2)
  obtain ⟨Cb, hCb⟩ : ∃ Cb, Cb = w1.heap.size := ⟨_, rfl⟩
  rw [← hCb] at HC hzc hpb ⊢
  have HPB := Lib.hid hpb
  clear hk2 d1 d2 hpr hCb hpb
  go_wp2_with fail
  go_loopw [8, 10] (fun sv i wr => ∃ (k : Nat), k ≤ 8 ∧ i = .int .i64 k ∧ sv = .int .i64 (powTo ys k) ∧ Hid (Box wr Cb 63 #[.int .i64 (corrTo ys k).i, .int .i64 (corrTo ys k).q]) ∧ Hid (SRow wr pa 8 8 preS) ∧ Hid (Box wr w.heap.size 63 #[.int .i64 0, .int .i64 0]) ∧ Hid (Keeps w wr)) (fun _ i _ => 8 - (intOf i).toNat)
  case atStart => exact ⟨0, by omega, rfl, rfl, HC, HP, HZ, HK⟩
  case round =>
    clear HZ HK HC HP
    obtain ⟨k, hk, rfl, rfl, HC, HP, HZ, HK⟩ := hrel
    have cl := HC.out.lt
    by_cases hlt : k < 8
    · obtain ⟨b, off, rfl, hbl, hcell⟩ := HX.out.addr (by omega)
      obtain ⟨hc0, hc1⟩ := hcell (t + k) (by omega)
      replace hc0 := HK.out.later hc0
      replace hc1 := HK.out.later hc1
      obtain ⟨pb, po, rfl, hpbl, hpcell⟩ := HP.out.addr (by decide)
      obtain ⟨hp0, hp1⟩ := hpcell k hlt
      have hpne := HPB.out _ rfl
      simp only at hpne
      have hpg : preS.getD k ⟨0, 0⟩ = preS[k]'hlt := by rw [List.getD_eq_getElem?_getD, List.getElem?_eq_getElem hlt]; rfl
      rw [← hpg] at hp0 hp1
      have hyg := HYG.out k hlt
      have hma := HAB.out k
      have hpa := preD_abs k
      have hc9 := HCA.out k
      have hp9 := HPA.out k
      have hc10 := HCA.out (k + 1)
      have hp10 := HPA.out (k + 1)
      have HS1 := Lib.hid (show corrTo ys (k + 1) = ⟨(corrTo ys k).i + (mprod (ys.getD k ⟨0, 0⟩) (preS.getD k ⟨0, 0⟩)).i, (corrTo ys k).q + (mprod (ys.getD k ⟨0, 0⟩) (preS.getD k ⟨0, 0⟩)).q⟩ from rfl)
      have HS2 := Lib.hid (show powTo ys (k + 1) = powTo ys k + pw (ys.getD k ⟨0, 0⟩) from rfl)
      rw [← hyg] at hc0 hc1
      obtain ⟨p, hp⟩ : ∃ p, p = preS.getD k ⟨0, 0⟩ := ⟨_, rfl⟩
      rw [← hp] at hpa HS1 hp0 hp1
      obtain ⟨x, hx⟩ : ∃ x, x = ys.getD k ⟨0, 0⟩ := ⟨_, rfl⟩
      rw [← hx] at hc0 hc1 hma HS1 HS2
      rw [HS1.out] at hc10
      rw [HS2.out] at hp10
      have hmm := mprod_abs x p hma hpa
      have hpp := pw_abs x hma
      clear hcell hyg hp hx hpcell hpg
      obtain ⟨C, hC⟩ : ∃ C, C = corrTo ys k := ⟨_, rfl⟩
      rw [← hC] at HC HS1 hc9 hc10
      obtain ⟨S, hS⟩ : ∃ S, S = powTo ys k := ⟨_, rfl⟩
      rw [← hS] at HS2 hp9 hp10 ⊢
      clear hC hS
      obtain ⟨xi, xq⟩ := x
      obtain ⟨pi, pq⟩ := p
      obtain ⟨ci, cq⟩ := C
      simp only [mprod, pw] at hc0 hc1 hp0 hp1 hma hpa hc9 hc10 hp10 hmm hpp HS1 HS2 HC
      have m1 := natAbs_mul_le hma.1 hpa.1
      have m2 := natAbs_mul_le hma.2 hpa.2
      have m3 := natAbs_mul_le hma.2 hpa.1
      have m4 := natAbs_mul_le hma.1 hpa.2
      have m5 := natAbs_mul_le hma.1 hma.1
      have m6 := natAbs_mul_le hma.2 hma.2
      have v1 : IntKind.i64.wrap (xi * pi) = xi * pi := wrap_small (by omega)
      have v2 : IntKind.i64.wrap (xq * pq) = xq * pq := wrap_small (by omega)
      have v3 : IntKind.i64.wrap (xi * pi + xq * pq) = xi * pi + xq * pq := wrap_small (by omega)
      have v4 : IntKind.i64.wrap (ci + (xi * pi + xq * pq)) = ci + (xi * pi + xq * pq) := wrap_small (by omega)
      have v5 : IntKind.i64.wrap (xq * pi) = xq * pi := wrap_small (by omega)
      have v6 : IntKind.i64.wrap (xi * pq) = xi * pq := wrap_small (by omega)
      have v7 : IntKind.i64.wrap (xq * pi - xi * pq) = xq * pi - xi * pq := wrap_small (by omega)
      have v8 : IntKind.i64.wrap (cq + (xq * pi - xi * pq)) = cq + (xq * pi - xi * pq) := wrap_small (by omega)
      have v9 : IntKind.i64.wrap (xi * xi) = xi * xi := wrap_small (by omega)
      have v10 : IntKind.i64.wrap (xq * xq) = xq * xq := wrap_small (by omega)
      have v11 : IntKind.i64.wrap (xi * xi + xq * xq) = xi * xi + xq * xq := wrap_small (by omega)
      have v12 : IntKind.i64.wrap (S + (xi * xi + xq * xq)) = S + (xi * xi + xq * xq) := wrap_small (by omega)
      have hw9 : IntKind.i64.wrap ((t : Int) + (k : Int)) = ((t + k : Nat) : Int) := by rw [wrap_small (by omega)]; omega
      have b1 : (0 : Int) ≤ ((t + k : Nat) : Int) := by omega
      have b2 : ((t + k : Nat) : Int) < (n : Int) := by omega
      clear m1 m2 m3 m4 m5 m6 hma hpa hc9 hc10 hp9 hp10 hmm hpp
      go_upto_region 10 with fail
      have hob := Keeps.alloc (Keeps.refl wr) (.cells #[.int .i64 xi, .int .i64 xq] 63)
      have HXB := Lib.hid (Box.new wr 63 #[.int .i64 xi, .int .i64 xq])
      have hxc : wr.heap.size ≠ Cb := by omega
      replace HC := Lib.hid (HC.out.keeps hob)
      replace HP := Lib.hid (HP.out.keeps hob)
      replace HZ := Lib.hid (HZ.out.keeps hob)
      replace HK := Lib.hid (HK.out.trans hob)
      obtain ⟨W, hW⟩ : ∃ W, W = wr.alloc (.cells #[.int .i64 xi, .int .i64 xq] 63) := ⟨_, rfl⟩
      replace hp0 := hob.later hp0
      replace hp1 := hob.later hp1
      rw [← hW] at HC HP HZ HK HXB hp0 hp1 ⊢
      obtain ⟨Xb, hXb⟩ : ∃ Xb, Xb = wr.heap.size := ⟨_, rfl⟩
      rw [← hXb] at HXB hxc ⊢
      clear hob hW hXb hc0 hc1 cl
      have q0 : ∀ q : Later W, q.w.cell? ⟨pb, po + k * 2, none⟩ = some (.int .i64 pi) := fun q => q.keeps.later hp0
      have q1 : ∀ q : Later W, q.w.cell? ⟨pb, po + k * 2 + 1, none⟩ = some (.int .i64 pq) := fun q => q.keeps.later hp1
      have c0 := HC.out.later 0 _ rfl
      have c1 := HC.out.later 1 _ rfl
      have x0 := HXB.out.later 0 _ rfl
      have x1 := HXB.out.later 1 _ rfl
      refine wp_region_quiet_tail (fun w' => ∃ q : Later W, w' = q.w) 21 (by kernel_rfl) (by kernel_rfl) ⟨⟨(W).drew, (Keeps.refl _).drew⟩, rfl⟩ ?_
      dsimp only [List.take, List.drop]
      repeat (go_big_quiet_step (fail))
      refine wpQuiet_nil ?_
      rintro _ ⟨q, rfl⟩
      obtain ⟨W2, hk2⟩ := q
      simp only
      replace HC := Lib.hid (HC.out.keeps hk2)
      replace HP := Lib.hid (HP.out.keeps hk2)
      replace HZ := Lib.hid (HZ.out.keeps hk2)
      replace HXB := Lib.hid (HXB.out.keeps hk2)
      replace HK := Lib.hid (HK.out.trans hk2)
      replace hp0 := hk2.later hp0
      replace hp1 := hk2.later hp1
      clear q0 q1 c0 c1 x0 x1 hk2
      have c0 := HC.out.cell 0 _ rfl
      have c1 := HC.out.cell 1 _ rfl
      have cf := HC.out.frozen
      go_upto_region 11 with fail
      have hzc2 : w.heap.size ≤ Cb := by omega
      replace HK := Lib.hid (HK.out.setCell (p := ⟨Cb, 0, none⟩) hzc2 (.int .i64 (ci + (xi * pi + xq * pq))))
      replace HC := Lib.hid (HC.out.putS 0 (.int .i64 (ci + (xi * pi + xq * pq))))
      replace HP := Lib.hid (HP.out.other (fun x hx => by cases hx; exact hpne) 0 (.int .i64 (ci + (xi * pi + xq * pq))))
      replace HZ := Lib.hid (HZ.out.other (show w.heap.size ≠ Cb by omega) 0 (.int .i64 (ci + (xi * pi + xq * pq))))
      replace HXB := Lib.hid (HXB.out.other hxc 0 (.int .i64 (ci + (xi * pi + xq * pq))))
      replace hp0 : (W2.setCell ⟨Cb, 0, none⟩ (.int .i64 (ci + (xi * pi + xq * pq)))).cell? ⟨pb, po + k * 2, none⟩ = some (.int .i64 pi) := ((KeepsBut.setCell W2 Cb 0 _).cell pb _ (World.block_lt_of_cell? _ _ hp0) hpne).trans hp0
      replace hp1 : (W2.setCell ⟨Cb, 0, none⟩ (.int .i64 (ci + (xi * pi + xq * pq)))).cell? ⟨pb, po + k * 2 + 1, none⟩ = some (.int .i64 pq) := ((KeepsBut.setCell W2 Cb 0 _).cell pb _ (World.block_lt_of_cell? _ _ hp1) hpne).trans hp1
      obtain ⟨W3, hW3⟩ : ∃ W3, W3 = W2.setCell ⟨Cb, 0, none⟩ (.int .i64 (ci + (xi * pi + xq * pq))) := ⟨_, rfl⟩
      rw [← hW3] at HC HP HZ HXB HK hp0 hp1 ⊢
      clear hW3 c0 c1 cf
      have q0 : ∀ q : Later W3, q.w.cell? ⟨pb, po + k * 2, none⟩ = some (.int .i64 pi) := fun q => q.keeps.later hp0
      have q1 : ∀ q : Later W3, q.w.cell? ⟨pb, po + k * 2 + 1, none⟩ = some (.int .i64 pq) := fun q => q.keeps.later hp1
      have c0 := HC.out.later 0 _ rfl
      have c1 := HC.out.later 1 _ rfl
      have x0 := HXB.out.later 0 _ rfl
      have x1 := HXB.out.later 1 _ rfl
      refine wp_region_quiet_tail (fun w' => ∃ q : Later W3, w' = q.w) 21 (by kernel_rfl) (by kernel_rfl) ⟨⟨(W3).drew, (Keeps.refl _).drew⟩, rfl⟩ ?_
      dsimp only [List.take, List.drop]
      repeat (go_big_quiet_step (fail))
      refine wpQuiet_nil ?_
      rintro _ ⟨q, rfl⟩
      obtain ⟨W4, hk4⟩ := q
      simp only
      replace HC := Lib.hid (HC.out.keeps hk4)
      replace HP := Lib.hid (HP.out.keeps hk4)
      replace HZ := Lib.hid (HZ.out.keeps hk4)
      replace HXB := Lib.hid (HXB.out.keeps hk4)
      replace HK := Lib.hid (HK.out.trans hk4)
      clear q0 q1 c0 c1 x0 x1 hk4 hp0 hp1
      have c0 := HC.out.cell 0 _ rfl
      have c1 := HC.out.cell 1 _ rfl
      have cf := HC.out.frozen
      have x0 := HXB.out.cell 0 _ rfl
      have x1 := HXB.out.cell 1 _ rfl
      have HK5 := Lib.hid (HK.out.setCell (p := ⟨Cb, 1, none⟩) hzc2 (.int .i64 (cq + (xq * pi - xi * pq))))
      have HC5 := Lib.hid (HC.out.putS 1 (.int .i64 (cq + (xq * pi - xi * pq))))
      have HP5 := Lib.hid (HP.out.other (fun x hx => by cases hx; exact hpne) 1 (.int .i64 (cq + (xq * pi - xi * pq))))
      have HZ5 := Lib.hid (HZ.out.other (show w.heap.size ≠ Cb by omega) 1 (.int .i64 (cq + (xq * pi - xi * pq))))
      have hxc' : ¬ Xb = Cb := hxc
      clear HC HP HZ HXB HK
      go_wp2_with fail
      go_roundw
      case rel => exact ⟨k + 1, by omega, by go_num, by rw [HS2.out], by rw [HS1.out]; exact HC5, HP5, HZ5, HK5⟩
      case measure => simp [intOf]; omega
    · obtain rfl : k = 8 := by omega
      have hc9 := HCA.out 8
      have hp9 := HPA.out 8
      obtain ⟨C, hC⟩ : ∃ C, C = corrTo ys 8 := ⟨_, rfl⟩
      rw [← hC] at HC HR hc9
      obtain ⟨S, hS⟩ : ∃ S, S = powTo ys 8 := ⟨_, rfl⟩
      rw [← hS] at HR hp9 ⊢
      obtain ⟨Ci, Cq⟩ := C
      simp only at hc9 HC
      have HIS := Lib.hid (show isB ⟨Ci, Cq⟩ S = (decide (0 < S) && decide (16 * S ≤ 2 * (Ci * Ci + Cq * Cq))) from rfl)
      have m1 := natAbs_mul_le hc9.1 hc9.1
      have m2 := natAbs_mul_le hc9.2 hc9.2
      have v1 : IntKind.i64.wrap (Ci * Ci) = Ci * Ci := wrap_small (by omega)
      have v2 : IntKind.i64.wrap (Cq * Cq) = Cq * Cq := wrap_small (by omega)
      have v3 : IntKind.i64.wrap (Ci * Ci + Cq * Cq) = Ci * Ci + Cq * Cq := wrap_small (by omega)
      have v4 : IntKind.i64.wrap (2 * (Ci * Ci + Cq * Cq)) = 2 * (Ci * Ci + Cq * Cq) := wrap_small (by omega)
      have v5 : IntKind.i64.wrap (16 * S) = 16 * S := wrap_small (by omega)
      clear hC hS HYG HAB HCA HPA m1 m2 hc9 hp9 HPB HP
      obtain ⟨D, hD⟩ : ∃ D, D = decide (16 * S ≤ 2 * (Ci * Ci + Cq * Cq)) := ⟨_, rfl⟩
      rw [← hD] at HIS
      have hDD := hD.symm
      clear hD
      have hzd := Lib.hid (HZ.out.keeps (Keeps.refl wr).drew)
      have g0 := HC.out.cell 0 _ rfl
      have g1 := HC.out.cell 1 _ rfl
      have z0 := HZ.out.cell 0 _ rfl
      have z1 := HZ.out.cell 1 _ rfl
      have zf := HZ.out.frozen
      have kbn : KeepsBut w.heap.size wr ((wr.setCell ⟨w.heap.size, 0, none⟩ (.int .i64 Ci)).setCell ⟨w.heap.size, 1, none⟩ (.int .i64 Cq)) := (KeepsBut.setCell _ _ _ _).trans (KeepsBut.setCell _ _ _ _)
      have hcn : Cb ≠ w.heap.size := by omega
      have cld : Cb < wr.heap.size := cl
      by_cases h0 : 0 < S
      · have d0 : decide (0 < S) = true := decide_eq_true h0
        rw [d0] at HIS
        go_wp2_with fail
        refine wp_region_held_drew (S := (fun w' => w'.cell? ⟨Cb, 0, none⟩ = some (.int .i64 Ci) ∧ w'.cell? ⟨Cb, 1, none⟩ = some (.int .i64 Cq))) (by kernel_rfl) ?_ (fun hHeld => ?_)
        · exact ⟨g0, g1⟩
        refine take_opS (i := 0) (oi := ?op0) ?hi0 ?hk0
        case hi0 => simp only [List.getElem?_toArray, List.getElem?_cons_zero, List.getElem?_cons_succ]; rfl
        refine ⟨by kernel_rfl, by kernel_rfl, by kernel_rfl, ?va0, fun _ _ _ h => h, Or.inl ⟨by rfl, ?hy0⟩, by assumption, ?re0⟩
        case hy0 => (intro w hSw; (try dsimp only at hSw); go_simp) <;> with_reducible rfl
        try simp only [Act.put, List.setIfInBounds_toArray, List.set_cons_zero, List.set_cons_succ]
        refine take_opS (i := 1) (oi := ?op1) ?hi1 ?hk1
        case hi1 => simp only [List.getElem?_toArray, List.getElem?_cons_zero, List.getElem?_cons_succ]; rfl
        refine ⟨by kernel_rfl, by kernel_rfl, by kernel_rfl, ?va1, fun _ _ _ h => h, Or.inl ⟨by rfl, ?hy1⟩, by assumption, ?re1⟩
        case hy1 => (intro w hSw; (try dsimp only at hSw); go_simp) <;> with_reducible rfl
        try simp only [Act.put, List.setIfInBounds_toArray, List.set_cons_zero, List.set_cons_succ]
        refine take_opS (i := 2) (oi := ?op2) ?hi2 ?hk2
        case hi2 => simp only [List.getElem?_toArray, List.getElem?_cons_zero, List.getElem?_cons_succ]; rfl
        refine ⟨by kernel_rfl, by kernel_rfl, by kernel_rfl, ?va2, fun _ _ _ h => h, Or.inl ⟨by rfl, ?hy2⟩, by assumption, ?re2⟩
        case hy2 => (intro w hSw; (try dsimp only at hSw); go_simp) <;> with_reducible rfl
        try simp only [Act.put, List.setIfInBounds_toArray, List.set_cons_zero, List.set_cons_succ]
        refine take_opS (i := 3) (oi := ?op3) ?hi3 ?hk3
        case hi3 => simp only [List.getElem?_toArray, List.getElem?_cons_zero, List.getElem?_cons_succ]; rfl
        refine ⟨by kernel_rfl, by kernel_rfl, by kernel_rfl, ?va3, fun _ _ _ h => h, Or.inl ⟨by rfl, ?hy3⟩, by assumption, ?re3⟩
        case hy3 => (intro w hSw; (try dsimp only at hSw); go_simp) <;> with_reducible rfl
        try simp only [Act.put, List.setIfInBounds_toArray, List.set_cons_zero, List.set_cons_succ]
        refine take_opS (i := 4) (oi := ?op4) ?hi4 ?hk4
        case hi4 => simp only [List.getElem?_toArray, List.getElem?_cons_zero, List.getElem?_cons_succ]; rfl
        refine ⟨by kernel_rfl, by kernel_rfl, by kernel_rfl, ?va4, fun _ _ _ h => h, Or.inl ⟨by rfl, ?hy4⟩, by assumption, ?re4⟩
        case hy4 => (intro w hSw; (try dsimp only at hSw); go_simp) <;> with_reducible rfl
        try simp only [Act.put, List.setIfInBounds_toArray, List.set_cons_zero, List.set_cons_succ]
        refine take_opS (i := 5) (oi := ?op5) ?hi5 ?hk5
        case hi5 => simp only [List.getElem?_toArray, List.getElem?_cons_zero, List.getElem?_cons_succ]; rfl
        refine ⟨by kernel_rfl, by kernel_rfl, by kernel_rfl, ?va5, fun _ _ _ h => h, Or.inl ⟨by rfl, ?hy5⟩, by assumption, ?re5⟩
        case hy5 => (intro w hSw; (try dsimp only at hSw); go_simp) <;> with_reducible rfl
        try simp only [Act.put, List.setIfInBounds_toArray, List.set_cons_zero, List.set_cons_succ]
        refine take_opS (i := 6) (oi := ?op6) ?hi6 ?hk6
        case hi6 => simp only [List.getElem?_toArray, List.getElem?_cons_zero, List.getElem?_cons_succ]; rfl
        refine ⟨by kernel_rfl, by kernel_rfl, by kernel_rfl, ?va6, fun _ _ _ h => h, Or.inl ⟨by rfl, ?hy6⟩, by assumption, ?re6⟩
        case hy6 => (intro w hSw; (try dsimp only at hSw); go_simp) <;> with_reducible rfl
        try simp only [Act.put, List.setIfInBounds_toArray, List.set_cons_zero, List.set_cons_succ]
        refine take_opS (i := 7) (oi := ?op7) ?hi7 ?hk7
        case hi7 => simp only [List.getElem?_toArray, List.getElem?_cons_zero, List.getElem?_cons_succ]; rfl
        refine ⟨by kernel_rfl, by kernel_rfl, by kernel_rfl, ?va7, fun _ _ _ h => h, Or.inl ⟨by rfl, ?hy7⟩, by assumption, ?re7⟩
        case hy7 => (intro w hSw; (try dsimp only at hSw); go_simp) <;> with_reducible rfl
        try simp only [Act.put, List.setIfInBounds_toArray, List.set_cons_zero, List.set_cons_succ]
        refine take_opS (i := 8) (oi := ?op8) ?hi8 ?hk8
        case hi8 => simp only [List.getElem?_toArray, List.getElem?_cons_zero, List.getElem?_cons_succ]; rfl
        refine ⟨by kernel_rfl, by kernel_rfl, by kernel_rfl, ?va8, fun _ _ _ h => h, Or.inl ⟨by rfl, ?hy8⟩, by assumption, ?re8⟩
        case hy8 => (intro w hSw; (try dsimp only at hSw); go_simp) <;> with_reducible rfl
        try simp only [Act.put, List.setIfInBounds_toArray, List.set_cons_zero, List.set_cons_succ]
        refine take_opS (i := 9) (oi := ?op9) ?hi9 ?hk9
        case hi9 => simp only [List.getElem?_toArray, List.getElem?_cons_zero, List.getElem?_cons_succ]; rfl
        refine ⟨by kernel_rfl, by kernel_rfl, by kernel_rfl, ?va9, fun _ _ _ h => h, Or.inl ⟨by rfl, ?hy9⟩, by assumption, ?re9⟩
        case hy9 => (intro w hSw; (try dsimp only at hSw); go_simp) <;> with_reducible rfl
        try simp only [Act.put, List.setIfInBounds_toArray, List.set_cons_zero, List.set_cons_succ]
        refine take_opS (i := 10) (oi := ?op10) ?hi10 ?hk10
        case hi10 => simp only [List.getElem?_toArray, List.getElem?_cons_zero, List.getElem?_cons_succ]; rfl
        refine ⟨by kernel_rfl, by kernel_rfl, by kernel_rfl, ?va10, fun _ _ _ h => h, Or.inl ⟨by rfl, ?hy10⟩, by assumption, ?re10⟩
        case hy10 => (intro w hSw; (try dsimp only at hSw); go_simp) <;> with_reducible rfl
        try simp only [Act.put, List.setIfInBounds_toArray, List.set_cons_zero, List.set_cons_succ]
        refine take_opS (i := 11) (oi := ?op11) ?hi11 ?hk11
        case hi11 => simp only [List.getElem?_toArray, List.getElem?_cons_zero, List.getElem?_cons_succ]; rfl
        refine ⟨by kernel_rfl, by kernel_rfl, by kernel_rfl, ?va11, fun _ _ _ h => h, Or.inl ⟨by rfl, ?hy11⟩, by assumption, ?re11⟩
        case hy11 => (intro w hSw; (try dsimp only at hSw); go_simp) <;> with_reducible rfl
        try simp only [Act.put, List.setIfInBounds_toArray, List.set_cons_zero, List.set_cons_succ]
        refine take_opS (i := 12) (oi := ?op12) ?hi12 ?hk12
        case hi12 => simp only [List.getElem?_toArray, List.getElem?_cons_zero, List.getElem?_cons_succ]; rfl
        refine ⟨by kernel_rfl, by kernel_rfl, by kernel_rfl, ?va12, fun _ _ _ h => h, Or.inl ⟨by rfl, ?hy12⟩, by assumption, ?re12⟩
        case hy12 => (intro w hSw; (try dsimp only at hSw); go_simp) <;> with_reducible rfl
        try simp only [Act.put, List.setIfInBounds_toArray, List.set_cons_zero, List.set_cons_succ]
        refine take_opS (i := 13) (oi := ?op13) ?hi13 ?hk13
        case hi13 => simp only [List.getElem?_toArray, List.getElem?_cons_zero, List.getElem?_cons_succ]; rfl
        refine ⟨by kernel_rfl, by kernel_rfl, by kernel_rfl, ?va13, fun _ _ _ h => h, Or.inl ⟨by rfl, ?hy13⟩, by assumption, ?re13⟩
        case hy13 => (intro w hSw; (try dsimp only at hSw); go_simp) <;> with_reducible rfl
        try simp only [Act.put, List.setIfInBounds_toArray, List.set_cons_zero, List.set_cons_succ]
        refine take_opS (i := 14) (oi := ?op14) ?hi14 ?hk14
        case hi14 => simp only [List.getElem?_toArray, List.getElem?_cons_zero, List.getElem?_cons_succ]; rfl
        refine ⟨by kernel_rfl, by kernel_rfl, by kernel_rfl, ?va14, fun _ _ _ h => h, Or.inl ⟨by rfl, ?hy14⟩, by assumption, ?re14⟩
        case hy14 => (intro w hSw; (try dsimp only at hSw); go_simp) <;> with_reducible rfl
        try simp only [Act.put, List.setIfInBounds_toArray, List.set_cons_zero, List.set_cons_succ]
        refine take_opS (i := 15) (oi := ?op15) ?hi15 ?hk15
        case hi15 => simp only [List.getElem?_toArray, List.getElem?_cons_zero, List.getElem?_cons_succ]; rfl
        refine ⟨by kernel_rfl, by kernel_rfl, by kernel_rfl, ?va15, fun _ _ _ h => h, Or.inl ⟨by rfl, ?hy15⟩, by assumption, ?re15⟩
        case hy15 => (intro w hSw; (try dsimp only at hSw); go_simp) <;> with_reducible rfl
        try simp only [Act.put, List.setIfInBounds_toArray, List.set_cons_zero, List.set_cons_succ]
        refine take_opS (i := 16) (oi := ?op16) ?hi16 ?hk16
        case hi16 => simp only [List.getElem?_toArray, List.getElem?_cons_zero, List.getElem?_cons_succ]; rfl
        refine ⟨by kernel_rfl, by kernel_rfl, by kernel_rfl, ?va16, fun _ _ _ h => h, Or.inl ⟨by rfl, ?hy16⟩, by assumption, ?re16⟩
        case hy16 => (intro w hSw; (try dsimp only at hSw); go_simp) <;> with_reducible rfl
        try simp only [Act.put, List.setIfInBounds_toArray, List.set_cons_zero, List.set_cons_succ]
        refine take_opS (i := 17) (oi := ?op17) ?hi17 ?hk17
        case hi17 => simp only [List.getElem?_toArray, List.getElem?_cons_zero, List.getElem?_cons_succ]; rfl
        refine ⟨by kernel_rfl, by kernel_rfl, by kernel_rfl, ?va17, fun _ _ _ h => h, Or.inl ⟨by rfl, ?hy17⟩, by assumption, ?re17⟩
        case hy17 => (intro w hSw; (try dsimp only at hSw); go_simp) <;> with_reducible rfl
        try simp only [Act.put, List.setIfInBounds_toArray, List.set_cons_zero, List.set_cons_succ]
        refine take_opS (i := 18) (oi := ?op18) ?hi18 ?hk18
        case hi18 => simp only [List.getElem?_toArray, List.getElem?_cons_zero, List.getElem?_cons_succ]; rfl
        refine ⟨by kernel_rfl, by kernel_rfl, by kernel_rfl, ?va18, fun _ _ _ h => h, Or.inl ⟨by rfl, ?hy18⟩, by assumption, ?re18⟩
        case hy18 => (intro w hSw; (try dsimp only at hSw); go_simp) <;> with_reducible rfl
        try simp only [Act.put, List.setIfInBounds_toArray, List.set_cons_zero, List.set_cons_succ]
        refine take_opS (i := 19) (oi := ?op19) ?hi19 ?hk19
        case hi19 => simp only [List.getElem?_toArray, List.getElem?_cons_zero, List.getElem?_cons_succ]; rfl
        refine ⟨by kernel_rfl, by kernel_rfl, by kernel_rfl, ?va19, fun _ _ _ h => h, Or.inl ⟨by rfl, ?hy19⟩, by assumption, ?re19⟩
        case hy19 => (intro w hSw; (try dsimp only at hSw); go_simp) <;> with_reducible rfl
        try simp only [Act.put, List.setIfInBounds_toArray, List.set_cons_zero, List.set_cons_succ]
        refine take_opS (i := 20) (oi := ?op20) ?hi20 ?hk20
        case hi20 => simp only [List.getElem?_toArray, List.getElem?_cons_zero, List.getElem?_cons_succ]; rfl
        refine ⟨by kernel_rfl, by kernel_rfl, by kernel_rfl, ?va20, fun _ _ _ h => h, Or.inl ⟨by rfl, ?hy20⟩, by assumption, ?re20⟩
        case hy20 => (intro w hSw; (try dsimp only at hSw); go_simp) <;> with_reducible rfl
        try simp only [Act.put, List.setIfInBounds_toArray, List.set_cons_zero, List.set_cons_succ]
        refine wpAnyH_ready (rs := [21]) (by kernel_rfl) (by simp) ?_
        refine ready_opS (o := ?op21) ?hi21 ?hk21
        case hi21 => simp only [List.getElem?_toArray, List.getElem?_cons_zero, List.getElem?_cons_succ]; rfl
        intro K hK
        go_simp
        refine hK.out _ _ ?_ (fun hHeld => ?_)
        · exact ⟨(kbn.cell Cb 0 cld hcn).trans g0, (kbn.cell Cb 1 cld hcn).trans g1⟩
        clear hK K
        try simp only [Act.put, List.setIfInBounds_toArray, List.set_cons_zero, List.set_cons_succ]
        refine take_opS (i := 22) (oi := ?op22) ?hi22 ?hk22
        case hi22 => simp only [List.getElem?_toArray, List.getElem?_cons_zero, List.getElem?_cons_succ]; rfl
        refine ⟨by kernel_rfl, by kernel_rfl, by kernel_rfl, ?va22, fun _ _ _ h => h, Or.inl ⟨by rfl, ?hy22⟩, by assumption, ?re22⟩
        case hy22 => (intro w hSw; (try dsimp only at hSw); go_simp) <;> with_reducible rfl
        try simp only [Act.put, List.setIfInBounds_toArray, List.set_cons_zero, List.set_cons_succ]
        refine take_opS (i := 23) (oi := ?op23) ?hi23 ?hk23
        case hi23 => simp only [List.getElem?_toArray, List.getElem?_cons_zero, List.getElem?_cons_succ]; rfl
        refine ⟨by kernel_rfl, by kernel_rfl, by kernel_rfl, ?va23, fun _ _ _ h => h, Or.inl ⟨by rfl, ?hy23⟩, by assumption, ?re23⟩
        case hy23 => (intro w hSw; (try dsimp only at hSw); go_simp) <;> with_reducible rfl
        try simp only [Act.put, List.setIfInBounds_toArray, List.set_cons_zero, List.set_cons_succ]
        refine wpAnyH_done (by kernel_rfl) ?_ _
        go_wp2_with fail
        refine bodyPost_ret (v := .tuple #[.agg #[.int .i64 Ci, .int .i64 Cq], .int .i64 S, .bool D]) (by simp [results, Try.results52, go_sem, *]) rfl ⟨by rw [HR.out, HIS.out]; rfl, ?_⟩
        exact ((HK.out.setCell (p := ⟨w.heap.size, 0, none⟩) (Nat.le_refl _) _).setCell (p := ⟨w.heap.size, 1, none⟩) (Nat.le_refl _) _).drew
      · have d0 : decide (0 < S) = false := decide_eq_false h0
        rw [d0] at HIS
        go_wp2_with fail
        refine wp_region_held_drew (S := (fun w' => w'.cell? ⟨Cb, 0, none⟩ = some (.int .i64 Ci) ∧ w'.cell? ⟨Cb, 1, none⟩ = some (.int .i64 Cq))) (by kernel_rfl) ?_ (fun hHeld => ?_)
        · exact ⟨g0, g1⟩
        refine take_opS (i := 0) (oi := ?opn0) ?hin0 ?hkn0
        case hin0 => simp only [List.getElem?_toArray, List.getElem?_cons_zero, List.getElem?_cons_succ]; rfl
        refine ⟨by kernel_rfl, by kernel_rfl, by kernel_rfl, ?van0, fun _ _ _ h => h, Or.inl ⟨by rfl, ?hyn0⟩, by assumption, ?ren0⟩
        case hyn0 => (intro w hSw; (try dsimp only at hSw); go_simp) <;> with_reducible rfl
        try simp only [Act.put, List.setIfInBounds_toArray, List.set_cons_zero, List.set_cons_succ]
        refine take_opS (i := 1) (oi := ?opn1) ?hin1 ?hkn1
        case hin1 => simp only [List.getElem?_toArray, List.getElem?_cons_zero, List.getElem?_cons_succ]; rfl
        refine ⟨by kernel_rfl, by kernel_rfl, by kernel_rfl, ?van1, fun _ _ _ h => h, Or.inl ⟨by rfl, ?hyn1⟩, by assumption, ?ren1⟩
        case hyn1 => (intro w hSw; (try dsimp only at hSw); go_simp) <;> with_reducible rfl
        try simp only [Act.put, List.setIfInBounds_toArray, List.set_cons_zero, List.set_cons_succ]
        refine take_opS (i := 2) (oi := ?opn2) ?hin2 ?hkn2
        case hin2 => simp only [List.getElem?_toArray, List.getElem?_cons_zero, List.getElem?_cons_succ]; rfl
        refine ⟨by kernel_rfl, by kernel_rfl, by kernel_rfl, ?van2, fun _ _ _ h => h, Or.inl ⟨by rfl, ?hyn2⟩, by assumption, ?ren2⟩
        case hyn2 => (intro w hSw; (try dsimp only at hSw); go_simp) <;> with_reducible rfl
        try simp only [Act.put, List.setIfInBounds_toArray, List.set_cons_zero, List.set_cons_succ]
        refine take_opS (i := 3) (oi := ?opn3) ?hin3 ?hkn3
        case hin3 => simp only [List.getElem?_toArray, List.getElem?_cons_zero, List.getElem?_cons_succ]; rfl
        refine ⟨by kernel_rfl, by kernel_rfl, by kernel_rfl, ?van3, fun _ _ _ h => h, Or.inl ⟨by rfl, ?hyn3⟩, by assumption, ?ren3⟩
        case hyn3 => (intro w hSw; (try dsimp only at hSw); go_simp) <;> with_reducible rfl
        try simp only [Act.put, List.setIfInBounds_toArray, List.set_cons_zero, List.set_cons_succ]
        refine take_opS (i := 4) (oi := ?opn4) ?hin4 ?hkn4
        case hin4 => simp only [List.getElem?_toArray, List.getElem?_cons_zero, List.getElem?_cons_succ]; rfl
        refine ⟨by kernel_rfl, by kernel_rfl, by kernel_rfl, ?van4, fun _ _ _ h => h, Or.inl ⟨by rfl, ?hyn4⟩, by assumption, ?ren4⟩
        case hyn4 => (intro w hSw; (try dsimp only at hSw); go_simp) <;> with_reducible rfl
        try simp only [Act.put, List.setIfInBounds_toArray, List.set_cons_zero, List.set_cons_succ]
        refine take_opS (i := 5) (oi := ?opn5) ?hin5 ?hkn5
        case hin5 => simp only [List.getElem?_toArray, List.getElem?_cons_zero, List.getElem?_cons_succ]; rfl
        refine ⟨by kernel_rfl, by kernel_rfl, by kernel_rfl, undef, fun _ _ _ h => h, Or.inr ⟨by rfl, rfl⟩, by assumption, ?_⟩
        try simp only [Act.put, List.setIfInBounds_toArray, List.set_cons_zero, List.set_cons_succ]
        refine take_opS (i := 6) (oi := ?opn6) ?hin6 ?hkn6
        case hin6 => simp only [List.getElem?_toArray, List.getElem?_cons_zero, List.getElem?_cons_succ]; rfl
        refine ⟨by kernel_rfl, by kernel_rfl, by kernel_rfl, undef, fun _ _ _ h => h, Or.inr ⟨by rfl, rfl⟩, by assumption, ?_⟩
        try simp only [Act.put, List.setIfInBounds_toArray, List.set_cons_zero, List.set_cons_succ]
        refine take_opS (i := 7) (oi := ?opn7) ?hin7 ?hkn7
        case hin7 => simp only [List.getElem?_toArray, List.getElem?_cons_zero, List.getElem?_cons_succ]; rfl
        refine ⟨by kernel_rfl, by kernel_rfl, by kernel_rfl, undef, fun _ _ _ h => h, Or.inr ⟨by rfl, rfl⟩, by assumption, ?_⟩
        try simp only [Act.put, List.setIfInBounds_toArray, List.set_cons_zero, List.set_cons_succ]
        refine take_opS (i := 8) (oi := ?opn8) ?hin8 ?hkn8
        case hin8 => simp only [List.getElem?_toArray, List.getElem?_cons_zero, List.getElem?_cons_succ]; rfl
        refine ⟨by kernel_rfl, by kernel_rfl, by kernel_rfl, undef, fun _ _ _ h => h, Or.inr ⟨by rfl, rfl⟩, by assumption, ?_⟩
        try simp only [Act.put, List.setIfInBounds_toArray, List.set_cons_zero, List.set_cons_succ]
        refine take_opS (i := 9) (oi := ?opn9) ?hin9 ?hkn9
        case hin9 => simp only [List.getElem?_toArray, List.getElem?_cons_zero, List.getElem?_cons_succ]; rfl
        refine ⟨by kernel_rfl, by kernel_rfl, by kernel_rfl, undef, fun _ _ _ h => h, Or.inr ⟨by rfl, rfl⟩, by assumption, ?_⟩
        try simp only [Act.put, List.setIfInBounds_toArray, List.set_cons_zero, List.set_cons_succ]
        refine take_opS (i := 10) (oi := ?opn10) ?hin10 ?hkn10
        case hin10 => simp only [List.getElem?_toArray, List.getElem?_cons_zero, List.getElem?_cons_succ]; rfl
        refine ⟨by kernel_rfl, by kernel_rfl, by kernel_rfl, undef, fun _ _ _ h => h, Or.inr ⟨by rfl, rfl⟩, by assumption, ?_⟩
        try simp only [Act.put, List.setIfInBounds_toArray, List.set_cons_zero, List.set_cons_succ]
        refine take_opS (i := 11) (oi := ?opn11) ?hin11 ?hkn11
        case hin11 => simp only [List.getElem?_toArray, List.getElem?_cons_zero, List.getElem?_cons_succ]; rfl
        refine ⟨by kernel_rfl, by kernel_rfl, by kernel_rfl, undef, fun _ _ _ h => h, Or.inr ⟨by rfl, rfl⟩, by assumption, ?_⟩
        try simp only [Act.put, List.setIfInBounds_toArray, List.set_cons_zero, List.set_cons_succ]
        refine take_opS (i := 12) (oi := ?opn12) ?hin12 ?hkn12
        case hin12 => simp only [List.getElem?_toArray, List.getElem?_cons_zero, List.getElem?_cons_succ]; rfl
        refine ⟨by kernel_rfl, by kernel_rfl, by kernel_rfl, undef, fun _ _ _ h => h, Or.inr ⟨by rfl, rfl⟩, by assumption, ?_⟩
        try simp only [Act.put, List.setIfInBounds_toArray, List.set_cons_zero, List.set_cons_succ]
        refine take_opS (i := 13) (oi := ?opn13) ?hin13 ?hkn13
        case hin13 => simp only [List.getElem?_toArray, List.getElem?_cons_zero, List.getElem?_cons_succ]; rfl
        refine ⟨by kernel_rfl, by kernel_rfl, by kernel_rfl, undef, fun _ _ _ h => h, Or.inr ⟨by rfl, rfl⟩, by assumption, ?_⟩
        try simp only [Act.put, List.setIfInBounds_toArray, List.set_cons_zero, List.set_cons_succ]
        refine take_opS (i := 14) (oi := ?opn14) ?hin14 ?hkn14
        case hin14 => simp only [List.getElem?_toArray, List.getElem?_cons_zero, List.getElem?_cons_succ]; rfl
        refine ⟨by kernel_rfl, by kernel_rfl, by kernel_rfl, undef, fun _ _ _ h => h, Or.inr ⟨by rfl, rfl⟩, by assumption, ?_⟩
        try simp only [Act.put, List.setIfInBounds_toArray, List.set_cons_zero, List.set_cons_succ]
        refine take_opS (i := 15) (oi := ?opn15) ?hin15 ?hkn15
        case hin15 => simp only [List.getElem?_toArray, List.getElem?_cons_zero, List.getElem?_cons_succ]; rfl
        refine ⟨by kernel_rfl, by kernel_rfl, by kernel_rfl, undef, fun _ _ _ h => h, Or.inr ⟨by rfl, rfl⟩, by assumption, ?_⟩
        try simp only [Act.put, List.setIfInBounds_toArray, List.set_cons_zero, List.set_cons_succ]
        refine take_opS (i := 16) (oi := ?opn16) ?hin16 ?hkn16
        case hin16 => simp only [List.getElem?_toArray, List.getElem?_cons_zero, List.getElem?_cons_succ]; rfl
        refine ⟨by kernel_rfl, by kernel_rfl, by kernel_rfl, undef, fun _ _ _ h => h, Or.inr ⟨by rfl, rfl⟩, by assumption, ?_⟩
        try simp only [Act.put, List.setIfInBounds_toArray, List.set_cons_zero, List.set_cons_succ]
        refine take_opS (i := 17) (oi := ?opn17) ?hin17 ?hkn17
        case hin17 => simp only [List.getElem?_toArray, List.getElem?_cons_zero, List.getElem?_cons_succ]; rfl
        refine ⟨by kernel_rfl, by kernel_rfl, by kernel_rfl, undef, fun _ _ _ h => h, Or.inr ⟨by rfl, rfl⟩, by assumption, ?_⟩
        try simp only [Act.put, List.setIfInBounds_toArray, List.set_cons_zero, List.set_cons_succ]
        refine take_opS (i := 18) (oi := ?opn18) ?hin18 ?hkn18
        case hin18 => simp only [List.getElem?_toArray, List.getElem?_cons_zero, List.getElem?_cons_succ]; rfl
        refine ⟨by kernel_rfl, by kernel_rfl, by kernel_rfl, undef, fun _ _ _ h => h, Or.inr ⟨by rfl, rfl⟩, by assumption, ?_⟩
        try simp only [Act.put, List.setIfInBounds_toArray, List.set_cons_zero, List.set_cons_succ]
        refine take_opS (i := 19) (oi := ?opn19) ?hin19 ?hkn19
        case hin19 => simp only [List.getElem?_toArray, List.getElem?_cons_zero, List.getElem?_cons_succ]; rfl
        refine ⟨by kernel_rfl, by kernel_rfl, by kernel_rfl, undef, fun _ _ _ h => h, Or.inr ⟨by rfl, rfl⟩, by assumption, ?_⟩
        try simp only [Act.put, List.setIfInBounds_toArray, List.set_cons_zero, List.set_cons_succ]
        refine take_opS (i := 20) (oi := ?opn20) ?hin20 ?hkn20
        case hin20 => simp only [List.getElem?_toArray, List.getElem?_cons_zero, List.getElem?_cons_succ]; rfl
        refine ⟨by kernel_rfl, by kernel_rfl, by kernel_rfl, ?van20, fun _ _ _ h => h, Or.inl ⟨by rfl, ?hyn20⟩, by assumption, ?ren20⟩
        case hyn20 => (intro w hSw; (try dsimp only at hSw); go_simp) <;> with_reducible rfl
        try simp only [Act.put, List.setIfInBounds_toArray, List.set_cons_zero, List.set_cons_succ]
        refine wpAnyH_ready (rs := [21]) (by kernel_rfl) (by simp) ?_
        refine ready_opS (o := ?opn21) ?hin21 ?hkn21
        case hin21 => simp only [List.getElem?_toArray, List.getElem?_cons_zero, List.getElem?_cons_succ]; rfl
        intro K hK
        go_simp
        refine hK.out _ _ ?_ (fun hHeld => ?_)
        · exact ⟨(kbn.cell Cb 0 cld hcn).trans g0, (kbn.cell Cb 1 cld hcn).trans g1⟩
        clear hK K
        try simp only [Act.put, List.setIfInBounds_toArray, List.set_cons_zero, List.set_cons_succ]
        refine take_opS (i := 22) (oi := ?nop22) ?nhi22 ?nhk22
        case nhi22 => simp only [List.getElem?_toArray, List.getElem?_cons_zero, List.getElem?_cons_succ]; rfl
        refine ⟨by kernel_rfl, by kernel_rfl, by kernel_rfl, ?nva22, fun _ _ _ h => h, Or.inl ⟨by rfl, ?nhy22⟩, by assumption, ?nre22⟩
        case nhy22 => (intro w hSw; (try dsimp only at hSw); go_simp) <;> with_reducible rfl
        try simp only [Act.put, List.setIfInBounds_toArray, List.set_cons_zero, List.set_cons_succ]
        refine take_opS (i := 23) (oi := ?nop23) ?nhi23 ?nhk23
        case nhi23 => simp only [List.getElem?_toArray, List.getElem?_cons_zero, List.getElem?_cons_succ]; rfl
        refine ⟨by kernel_rfl, by kernel_rfl, by kernel_rfl, ?nva23, fun _ _ _ h => h, Or.inl ⟨by rfl, ?nhy23⟩, by assumption, ?nre23⟩
        case nhy23 => (intro w hSw; (try dsimp only at hSw); go_simp) <;> with_reducible rfl
        try simp only [Act.put, List.setIfInBounds_toArray, List.set_cons_zero, List.set_cons_succ]
        refine wpAnyH_done (by kernel_rfl) ?_ _
        go_wp2_with fail
        refine bodyPost_ret (v := .tuple #[.agg #[.int .i64 Ci, .int .i64 Cq], .int .i64 S, .bool false]) (by simp [results, Try.results52, go_sem, *]) rfl ⟨by rw [HR.out, HIS.out]; rfl, ?_⟩
        exact ((HK.out.setCell (p := ⟨w.heap.size, 0, none⟩) (Nat.le_refl _) _).setCell (p := ⟨w.heap.size, 1, none⟩) (Nat.le_refl _) _).drew
theorem rmatch_any (a : Option Addr) (n cap : Nat) (xs : List Smp) (at_ : Int) (w : World) (hx : SRow w a n cap xs) (hn : n ≤ 100000) (hb : -9223372036854775808 ≤ at_) :
    Calls Try.prog 52 #[.slice a n cap, .int .i64 at_] w fun e w' => MRes w w' e (matchRes xs at_) := by
  cases h : matchOk n at_
  · exact rmatch_out a n cap xs at_ w hx h hb hn
  · simp only [matchOk, Bool.and_eq_true, decide_eq_true_eq] at h
    obtain ⟨t, rfl⟩ := Int.eq_ofNat_of_zero_le h.1
    cases h2 : allB (partS xs t (t + 8))
    · exact rmatch_bad a n cap xs t w hx (by omega) h2 hn
    · exact rmatch_ok a n cap xs t w hx (by omega) h2 hn
end Go.Proofs.Ytdjbalaicfienaa
