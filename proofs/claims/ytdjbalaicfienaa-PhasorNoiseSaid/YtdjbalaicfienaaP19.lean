/- The walks of layer 3, 13: Decode. -/
import Derived.Test.YtdjbalaicfienaaP18
import Derived.Test.YtdjbalaicfienaaP18a
import Derived.Test.YtdjbalaicfienaaW3
import Derived.Test.YtdjbalaicfienaaJumps
namespace Go.Proofs.Ytdjbalaicfienaa
open Go.RowKit
set_option linter.unusedVariables false
set_option linter.unusedSimpArgs false
/-- what the bits behind the head are -/
def restRes (r : List Smp) (N k : Nat) : List Bool × Int :=
  cond (allB r) (cond (decide (N < 2 * r.length) && (rdTo r k r.length).getD N false) ([], 33) ((rdTo r k r.length).take N, 0)) ([], 31)
def headN (xs : List Smp) (t k : Nat) : Nat := getTo (rdTo (partS xs (t + 8) (t + 14)) k 6) 0 12
def decRes (xs : List Smp) (at_ q : Int) : List Bool × Int :=
  if at_ < 0 then ([], 2) else if (xs.length : Int) - 14 < at_ then ([], 32) else
  cond (allB (partS xs (at_.toNat + 8) (at_.toNat + 14)))
    (if xs.length - (at_.toNat + 14) < (headN xs at_.toNat (backK q) + 1) / 2 then ([], 32) else
      restRes (partS (partS xs (at_.toNat + 14) xs.length) 0 ((headN xs at_.toNat (backK q) + 1) / 2)) (headN xs at_.toNat (backK q)) (backK q)) ([], 31)
theorem decRes_neg (xs : List Smp) (at_ q : Int) (h : at_ < 0) : decRes xs at_ q = ([], 2) := if_pos h
theorem decRes_cut (xs : List Smp) (at_ q : Int) (h : 0 ≤ at_) (h2 : (xs.length : Int) - 14 < at_) : decRes xs at_ q = ([], 32) := by
  unfold decRes; rw [if_neg (by omega), if_pos h2]
theorem decRes_nat (xs : List Smp) (t : Nat) (q : Int) (h : t + 14 ≤ xs.length) : decRes xs t q = cond (allB (partS xs (t + 8) (t + 14)))
    (if xs.length - (t + 14) < (headN xs t (backK q) + 1) / 2 then ([], 32) else
      restRes (partS (partS xs (t + 14) xs.length) 0 ((headN xs t (backK q) + 1) / 2)) (headN xs t (backK q)) (backK q)) ([], 31) := by
  unfold decRes; rw [if_neg (by omega), if_neg (by omega), Int.toNat_natCast]
theorem unit_back (q : Int) : (unitOf (backK q)).1 = (unitOf (qOf q)).1 ∧ (unitOf (backK q)).2 = -(unitOf (qOf q)).2 := by
  unfold backK
  have h := qOf_emod q
  have h4 : qOf q = 0 ∨ qOf q = 1 ∨ qOf q = 2 ∨ qOf q = 3 := by omega
  rcases h4 with h | h | h | h <;> rw [h] <;> decide
theorem headN_lt (xs : List Smp) (t k : Nat) (h : t + 14 ≤ xs.length) : headN xs t k < 4096 := by
  unfold headN getTo
  have hl : ((rdTo (partS xs (t + 8) (t + 14)) k 6).drop 0).take 12 = rdTo (partS xs (t + 8) (t + 14)) k 6 := by
    rw [List.drop_zero, List.take_of_length_le]
    rw [rdTo_len _ _ _ (by rw [partS_len _ _ _ h]; omega)]
    decide
  rw [hl]
  have := valOf_lt (rdTo (partS xs (t + 8) (t + 14)) k 6)
  rw [rdTo_len _ _ _ (by rw [partS_len _ _ _ h]; omega)] at this
  exact this
theorem Bools.takeN {w : World} {a : Option Addr} {n cap : Nat} {bs : List Bool} (h : Bools w (.slice a n cap) bs) (m : Nat) (hm : m ≤ bs.length) : Bools w (.slice a m cap) (bs.take m) := by
  obtain ⟨a', cap', he, h1, h2, h3⟩ := h.shape
  simp only [Value.slice.injEq] at he
  obtain ⟨rfl, rfl, rfl⟩ := he
  have hl : (bs.take m).length = m := by rw [List.length_take]; omega
  refine ⟨a, cap, by rw [hl], by omega, h2, by rw [List.length_map, hl], fun i hi => ?_⟩
  rw [hl] at hi
  obtain ⟨b, off, hab, hc⟩ := h3.2 i (by omega)
  refine ⟨b, off, hab, hc.trans ?_⟩
  simp [List.getElem?_take, hi]
theorem Box.putQ {w : World} {b t : Nat} {x y : Value} (h : Box w b t #[x, y]) (v u : Value) : Box ((w.setCell ⟨b, 0, none⟩ v).setCell ⟨b, 1, none⟩ u) b t #[v, u] := by
  have h1 : Box (w.setCell ⟨b, 0, none⟩ v) b t #[v, y] := heap_setCell_same w b 0 _ t v h
  exact heap_setCell_same _ b 1 _ t u h1
theorem SRow.pre {w : World} {a : Option Addr} {n cap : Nat} {xs : List Smp} (h : SRow w a n cap xs) (t : Nat) (h2 : t ≤ n) : SRow w a t cap (partS xs 0 t) := by
  have hl := h.len
  have hc := h.hcap
  have h3 : (partS xs 0 t).length = t := by rw [partS_len _ _ _ (by omega)]; omega
  refine ⟨h3, by omega, h.hmax, fun i hi => ?_⟩
  rw [h3] at hi
  obtain ⟨b, off, hab, hv1, hv2⟩ := h.cell i (by omega)
  refine ⟨b, off, hab, ?_, ?_⟩
  · rw [partS_get _ _ _ _ _ (by omega)]; simpa using hv1
  · rw [partS_get _ _ _ _ _ (by omega)]; simpa using hv2
theorem elemBools : Try.prog.underlying 102 = some (.slice (Try.prog.elem 102)) := by kernel_rfl
theorem sub_bools (k : IntKind) (a : Option Addr) (n cap t : Nat) (u : Int) (hu : u = t) (h2 : t ≤ n) (hc : n ≤ cap) : ∀ w : World, (Instr.slice 102 (.slice a n cap) none (some (.int k u)) none).run Try.prog w = .ok (.slice a t cap) w := by
  subst hu
  intro w
  rw [run_slice_h w 102 a n cap elemBools k t (by omega) (by omega)]
  simp [go_sem, sliced, Addr.add]
set_option maxRecDepth 100000 in
set_option maxHeartbeats 4000000 in
theorem decode_out (a : Option Addr) (n cap : Nat) (xs : List Smp) (at_ q : Int) (w : World) (hx : SRow w a n cap xs) (hn : n ≤ 100000) (h : ¬ (0 ≤ at_ ∧ at_ ≤ (n : Int) - 14)) (h1 : -9223372036854775808 ≤ q) (h2 : q ≤ 9223372036854775807) :
    Calls Try.prog 55 #[.slice a n cap, .int .i64 at_, .int .i64 q] w fun e w' => Res w w' e (decRes xs at_ q) := by
  have hlen := hx.len
  subst hlen
  have HZ := Lib.hid (Box.new w 26 #[.int .i64 0, .slice none 0 0])
  have z0 := HZ.out.cell 0 _ rfl
  have z1 := HZ.out.cell 1 _ rfl
  have zf := HZ.out.frozen
  by_cases h0 : at_ < 0
  · have HR := Lib.hid (decRes_neg xs at_ q h0)
    have d1 : decide (at_ < 0) = true := decide_eq_true h0
    clear h h0
    go_enter Try.func55, Try.ntmps55
    go_wp2_with fail
    refine wp_scope_fwd ?_
    go_wp2_with fail
    with_reducible refine (unit_any q _ h1 h2).mono ?_
    rintro e w2 ⟨ua, ub, rfl, fa, fb, rfl⟩
    go_wp2_with fail
    with_reducible refine (conj_any ua ub _ _ _ fa fb).mono ?_
    rintro e w3 ⟨ca, cb, rfl, ga, gb, rfl⟩
    go_wp2_with fail
    go_step3
    refine fwd_goto_of rfl ?_
    go_wp2_with fail
    refine noGoto_ret_of ?_
    refine bodyPost_ret (v := .tuple #[RB.zero.val, .int .i64 2]) (by simp [results, Try.results55, go_sem, RB.val, RB.zero, *]) rfl (Res.no2 HR.out ⟨rfl, ?_⟩)
    repeat (with_reducible refine Keeps.setCell ?_ (by first | (simp; done) | (simp; omega) | exact Nat.le_refl _) _)
    exact (Keeps.refl w).alloc _
  · have HR := Lib.hid (decRes_cut xs at_ q (by omega) (by omega))
    have d1 : decide (at_ < 0) = false := decide_eq_false h0
    have d2 : decide ((xs.length : Int) - 14 < at_) = true := decide_eq_true (by omega)
    clear h h0
    go_enter Try.func55, Try.ntmps55
    go_wp2_with fail
    refine wp_scope_fwd ?_
    go_wp2_with fail
    with_reducible refine (unit_any q _ h1 h2).mono ?_
    rintro e w2 ⟨ua, ub, rfl, fa, fb, rfl⟩
    go_wp2_with fail
    with_reducible refine (conj_any ua ub _ _ _ fa fb).mono ?_
    rintro e w3 ⟨ca, cb, rfl, ga, gb, rfl⟩
    go_wp2_with fail
    go_step3
    refine fwd_goto_of rfl ?_
    go_wp2_with fail
    refine noGoto_ret_of ?_
    refine bodyPost_ret (v := .tuple #[RB.zero.val, .int .i64 32]) (by simp [results, Try.results55, go_sem, RB.val, RB.zero, *]) rfl (Res.no2 HR.out ⟨rfl, ?_⟩)
    repeat (with_reducible refine Keeps.setCell ?_ (by first | (simp; done) | (simp; omega) | exact Nat.le_refl _) _)
    exact (Keeps.refl w).alloc _
set_option maxRecDepth 100000 in
set_option maxHeartbeats 8000000 in
theorem decode_in (a : Option Addr) (n cap : Nat) (xs : List Smp) (t : Nat) (q : Int) (w : World) (hx : SRow w a n cap xs) (hn : n ≤ 100000) (h : t + 14 ≤ n) (h1 : -9223372036854775808 ≤ q) (h2 : q ≤ 9223372036854775807) :
    Calls Try.prog 55 #[.slice a n cap, .int .i64 t, .int .i64 q] w fun e w' => Res w w' e (decRes xs t q) := by
  have HX := Lib.hid hx
  have hcap := hx.hcap
  have hlen := hx.len
  subst hlen
  have HR := Lib.hid (decRes_nat xs t q h)
  have HZ := Lib.hid (Box.new w 26 #[.int .i64 0, .slice none 0 0])
  have hwid := qOf_back q
  have HUB := Lib.hid (unit_back q)
  obtain ⟨a1, cap1, e1, hs1⟩ := sub_lh a xs.length cap (t + 8) (t + 14) ((t : Int) + 8) ((t : Int) + 14) (by omega) (by omega) (by omega) h hcap
  have HS1 := Lib.hid (hs1 w xs hx)
  obtain ⟨a2, cap2, e2, hs2⟩ := sub_l a xs.length cap (t + 14) ((t : Int) + 14) (by omega) (by omega) hcap
  have HS2 := Lib.hid (hs2 w xs hx)
  rw [show t + 14 - (t + 8) = 6 by omega] at e1 HS1
  have dA : decide ((t : Int) < 0) = false := decide_eq_false (by omega)
  have dB : decide ((xs.length : Int) - 14 < (t : Int)) = false := decide_eq_false (by omega)
  have i1 : IntKind.i64.wrap ((t : Int) + 8) = (t : Int) + 8 := by simp [IntKind.wrap, IntKind.bits, IntKind.signed]; omega
  have i2 : IntKind.i64.wrap ((t : Int) + 14) = (t : Int) + 14 := by simp [IntKind.wrap, IntKind.bits, IntKind.signed]; omega
  have z0 := HZ.out.cell 0 _ rfl
  have z1 := HZ.out.cell 1 _ rfl
  have zf := HZ.out.frozen
  clear hs1 hs2 hx hwid
  go_enter Try.func55, Try.ntmps55
  go_wp2_with fail
  refine wp_scope_fwd ?_
  go_wp2_with fail
  with_reducible refine (unit_any q _ h1 h2).mono ?_
  rintro e w2 ⟨ua, ub, rfl, fa, fb, rfl⟩
  go_wp2_with fail
  with_reducible refine (conj_any ua ub _ _ _ fa fb).mono ?_
  rintro e w3 ⟨ca, cb, rfl, ga, gb, rfl⟩
  rw [← HUB.out.1] at ga
  rw [← HUB.out.2] at gb
  go_wp2_with fail
  have HK0 : Hid (Keeps w (w.alloc (Obj.cells #[.int .i64 0, .slice none 0 0] 26))) := Lib.hid ((Keeps.refl w).alloc _)
  with_reducible refine (all_samples a1 6 cap1 _ _ (HS1.out.keeps HK0.out)).mono ?_
  rintro e w4 ⟨rfl, hk4⟩
  have HK4 := Lib.hid hk4
  clear hk4
  have HZ4 := Lib.hid (HZ.out.keeps HK4.out)
  have z04 := HZ4.out.cell 0 _ rfl
  have z14 := HZ4.out.cell 1 _ rfl
  have zf4 := HZ4.out.frozen
  cases hall : allB (partS xs (t + 8) (t + 14)) with
  | false =>
    go_wp2_with fail
    go_step3
    refine fwd_goto_of rfl ?_
    go_wp2_with fail
    go_step3
    go_wp2_with fail
    refine noGoto_ret_of ?_
    rw [hall] at HR
    refine bodyPost_ret (v := .tuple #[RB.zero.val, .int .i64 31]) (by simp [results, Try.results55, go_sem, RB.val, RB.zero, *]) rfl (Res.no2 HR.out ⟨rfl, ?_⟩)
    repeat (with_reducible refine Keeps.setCell ?_ (by first | (simp; done) | (simp; omega) | exact Nat.le_refl _) _)
    exact HK0.out.trans HK4.out
  | true =>
    go_wp2_with fail
    with_reducible refine (read_any a1 6 cap1 _ ca cb (backK q) _ (HS1.out.keeps (HK0.out.trans HK4.out)) hall ga gb (by omega)).mono ?_
    rintro e w5 ⟨v5, rfl, ho5, hk5⟩
    have HK5 := Lib.hid hk5
    have HB5 : Hid (Bools w5 v5 (rdTo (partS xs (t + 8) (t + 14)) (backK q) 6)) := Lib.hid ho5.bools
    clear hk5 ho5
    go_wp2_with fail
    with_reducible refine (of_ok v5 _ _ HB5.out ?_).mono ?_
    · rw [rdTo_len _ _ _ (by rw [partS_len _ _ _ h]; omega)]; decide
    rintro e w6 ⟨y6, rfl, hy6, hf6, hk6⟩
    have HK6 := Lib.hid (HK4.out.trans (HK5.out.trans hk6))
    have HZ6 := Lib.hid (HZ4.out.keeps (HK5.out.trans hk6))
    have z06 := HZ6.out.cell 0 _ rfl
    have z16 := HZ6.out.cell 1 _ rfl
    have zf6 := HZ6.out.frozen
    have hlt : (rdTo (partS xs (t + 8) (t + 14)) (backK q) 6).length = 12 := by
      rw [rdTo_len _ _ _ (by rw [partS_len _ _ _ h]; omega)]
    obtain ⟨a6, cap6, rfl⟩ := hy6.shape
    have HY6 := Lib.hid hy6
    have HF6 := Lib.hid hf6
    rw [hlt] at HY6
    simp only [RB.val, hlt, Int.cast_ofNat_Int]
    clear hk6 hy6 hf6 z0 z1 zf
    go_wp2_with fail
    have HKS : Hid (Keeps w ((w6.setCell ⟨w.heap.size, 0, none⟩ (.int .i64 12)).setCell ⟨w.heap.size, 1, none⟩ (.slice a6 2 cap6))) :=
      Lib.hid (by
        repeat (with_reducible refine Keeps.setCell ?_ (by first | (simp; done) | (simp; omega) | exact Nat.le_refl _) _)
        exact HK0.out.trans HK6.out)
    have hyS : RB.Is ⟨12, a6, 2, cap6, pack (rdTo (partS xs (t + 8) (t + 14)) (backK q) 6)⟩ ((w6.setCell ⟨w.heap.size, 0, none⟩ (.int .i64 12)).setCell ⟨w.heap.size, 1, none⟩ (.slice a6 2 cap6)) (rdTo (partS xs (t + 8) (t + 14)) (backK q) 6) := by
      have hb : w.heap.size < w5.heap.size := by
        have := (HK4.out.trans HK5.out).size
        simp at this
        omega
      exact (HY6.out.put HF6.out hb _ _).put HF6.out hb _ _
    have hNlt := headN_lt xs t (backK q) h
    have hNd : getTo (rdTo (partS xs (t + 8) (t + 14)) (backK q) 6) 0 12 = headN xs t (backK q) := rfl
    with_reducible refine (get_ok ⟨12, a6, 2, cap6, pack (rdTo (partS xs (t + 8) (t + 14)) (backK q) 6)⟩ _ 0 12 0 12 _ rfl rfl hyS (by decide) (by rw [hlt]; decide)).mono ?_
    rintro e w7 ⟨rfl, hk7⟩
    rw [hNd]
    have HK7 := Lib.hid (HKS.out.trans hk7)
    have HZ7 := Lib.hid ((Box.putQ HZ6.out (.int .i64 12) (.slice a6 2 cap6)).keeps hk7)
    generalize hNN : headN xs t (backK q) = N at *
    clear hk7
    have j1 : IntKind.u64.wrap ((N : Int) + 1) = (N : Int) + 1 := by simp [IntKind.wrap, IntKind.bits, IntKind.signed]; omega
    have j2 : IntKind.i64.wrap ((N : Int) + 1) = (N : Int) + 1 := by simp [IntKind.wrap, IntKind.bits, IntKind.signed]; omega
    have j3 : ((N : Int) + 1).tdiv 2 = ((N + 1) / 2 : Nat) := by rw [Int.tdiv_eq_ediv_of_nonneg (by omega)]; omega
    obtain ⟨M, hM⟩ : ∃ M, (N + 1) / 2 = M := ⟨_, rfl⟩
    obtain ⟨L, hL⟩ : ∃ L, xs.length - (t + 14) = L := ⟨_, rfl⟩
    obtain ⟨P, hP⟩ : ∃ P, 2 * M = P := ⟨_, rfl⟩
    have j4 : ((N : Int) + 1) / 2 = (M : Int) := by omega
    rw [hM] at j3 HR
    rw [hL] at e2 HS2 HR
    have HZ7' := HZ7
    have z07 := HZ7.out.cell 0 _ rfl
    have z17 := HZ7.out.cell 1 _ rfl
    have zf7 := HZ7.out.frozen
    by_cases hcut : L < M
    · have dC : decide ((L : Int) < (M : Int)) = true := decide_eq_true (by omega)
      rw [if_pos hcut, hall] at HR
      go_wp2_with fail
      go_step3
      refine fwd_goto_of rfl ?_
      go_wp2_with fail
      refine noGoto_ret_of ?_
      refine bodyPost_ret (v := .tuple #[RB.zero.val, .int .i64 32]) (by simp [results, Try.results55, go_sem, RB.val, RB.zero, *]) rfl (Res.no2 HR.out ⟨rfl, ?_⟩)
      repeat (with_reducible refine Keeps.setCell ?_ (by first | (simp; done) | (simp; omega) | exact Nat.le_refl _) _)
      exact HK7.out
    · have dC : decide ((L : Int) < (M : Int)) = false := decide_eq_false (by omega)
      rw [if_neg hcut, hall] at HR
      obtain ⟨a3, cap3, e3, hs3⟩ := sub_h a2 L cap2 M (M : Int) rfl (by omega) HS2.out.hcap
      have HS3 := Lib.hid (hs3 _ _ HS2.out)
      clear hs3
      have hpl : (partS (partS xs (t + 14) xs.length) 0 M).length = M := HS3.out.len
      generalize hrest : partS (partS xs (t + 14) xs.length) 0 M = r at *
      go_wp2_with fail
      with_reducible refine (all_samples a3 M cap3 r _ (HS3.out.keeps HK7.out)).mono ?_
      rintro e w8 ⟨rfl, hk8⟩
      have HK8 := Lib.hid (HK7.out.trans hk8)
      have HZ8 := Lib.hid (HZ7.out.keeps hk8)
      have z08 := HZ8.out.cell 0 _ rfl
      have z18 := HZ8.out.cell 1 _ rfl
      have zf8 := HZ8.out.frozen
      clear hk8 z07 z17 zf7
      cases hal2 : allB r with
      | false =>
        go_wp2_with fail
        go_step3
        refine fwd_goto_of rfl ?_
        go_wp2_with fail
        go_step3
        go_wp2_with fail
        refine noGoto_ret_of ?_
        have HR2 : Hid (decRes xs t q = ([], 31)) := Lib.hid (by rw [HR.out]; unfold restRes; rw [hal2]; rfl)
        refine bodyPost_ret (v := .tuple #[RB.zero.val, .int .i64 31]) (by simp [results, Try.results55, go_sem, RB.val, RB.zero, *]) rfl (Res.no2 HR2.out ⟨rfl, ?_⟩)
        repeat (with_reducible refine Keeps.setCell ?_ (by first | (simp; done) | (simp; omega) | exact Nat.le_refl _) _)
        exact HK8.out
      | true =>
        go_wp2_with fail
        with_reducible refine (read_any a3 M cap3 r ca cb (backK q) _ (HS3.out.keeps HK8.out) hal2 ga gb (by omega)).mono ?_
        rintro e w9 ⟨v9, rfl, ho9, hk9⟩
        have HK9 := Lib.hid (HK8.out.trans hk9)
        have HZ9 := Lib.hid (HZ8.out.keeps hk9)
        have HB9 := Lib.hid ho9.bools
        clear hk9 ho9
        obtain ⟨a9, cap9, rfl, c1, c2, c3⟩ := HB9.out.shape
        have hlr : (rdTo r (backK q) M).length = P := by rw [← hP]; exact rdTo_len _ _ _ (by omega)
        rw [hlr] at c1
        have HT : Hid (Bools w9 (.slice a9 N cap9) ((rdTo r (backK q) M).take N)) := Lib.hid (by
          have h9 := HB9.out
          rw [hlr] at h9
          exact h9.takeN N (by omega))
        have e9 := sub_bools .u64 a9 P cap9 N (N : Int) rfl (by omega) (by omega)
        by_cases hodd : N < P
        · have dO : decide ((N : Int) < (P : Int)) = true := decide_eq_true (by omega)
          obtain ⟨b9, off9, rfl, hcell, hlt9⟩ := c3.boolAt (by omega)
          have hcN := hcell N (by omega)
          have HRR := Lib.hid (show decRes xs t q = cond ((rdTo r (backK q) M).getD N false) ([], 33) ((rdTo r (backK q) M).take N, 0) by
            rw [HR.out]; unfold restRes; rw [hal2, hpl, hP, decide_eq_true hodd, Bool.true_and]; rfl)
          clear hcell
          cases hb : (rdTo r (backK q) M).getD N false with
          | true =>
            rw [hb] at hcN HRR
            have z09 := HZ9.out.cell 0 _ rfl
            have z19 := HZ9.out.cell 1 _ rfl
            have zf9 := HZ9.out.frozen
            go_wp2_with fail
            go_step3
            refine fwd_goto_of rfl ?_
            go_wp2_with fail
            refine noGoto_ret_of ?_
            refine bodyPost_ret (v := .tuple #[RB.zero.val, .int .i64 33]) (by simp [results, Try.results55, go_sem, RB.val, RB.zero, *]) rfl (Res.no2 HRR.out ⟨rfl, ?_⟩)
            repeat (with_reducible refine Keeps.setCell ?_ (by first | (simp; done) | (simp; omega) | exact Nat.le_refl _) _)
            exact HK9.out
          | false =>
            rw [hb] at hcN HRR
            go_wp2_with fail
            with_reducible refine (of_ok _ _ _ HT.out (by rw [List.length_take]; omega)).mono ?_
            rintro e w10 ⟨y10, rfl, hy10, hf10, hk10⟩
            have HK10 := Lib.hid (HK9.out.trans hk10)
            have HZ10 := Lib.hid (HZ9.out.keeps hk10)
            have z010 := HZ10.out.cell 0 _ rfl
            have z110 := HZ10.out.cell 1 _ rfl
            have zf10 := HZ10.out.frozen
            clear hk10
            obtain ⟨a10, cap10, rfl⟩ := hy10.shape
            have hlN : ((rdTo r (backK q) M).take N).length = N := by rw [List.length_take, hlr]; omega
            have HY10 := Lib.hid hy10
            rw [hlN] at HY10 hf10
            simp only [RB.val, hlN]
            have HF10 := Lib.hid hf10
            clear hy10 hf10
            go_wp2_with fail
            refine fwd_ret_of ?_
            refine bodyPost_ret (v := .tuple #[.agg #[.int .i64 N, .slice a10 ((N + 7) / 8) cap10], .int .i64 0]) (by simp [results, Try.results55, go_sem, *]) rfl ?_
            have hs9 : w.heap.size < w9.heap.size := HZ9.out.lt
            refine ⟨⟨N, a10, (N + 7) / 8, cap10, pack ((rdTo r (backK q) M).take N)⟩, by first | (rw [HRR.out]; done) | (rw [HRR.out]; rfl), by rw [HRR.out]; exact (HY10.out.put HF10.out hs9 _ _).put HF10.out hs9 _ _, HF10.out.mono (by omega), ?_⟩
            repeat (with_reducible refine Keeps.setCell ?_ (by first | (simp; done) | (simp; omega) | exact Nat.le_refl _) _)
            exact HK10.out
        · have dO : decide ((N : Int) < (P : Int)) = false := decide_eq_false (by omega)
          have HRR := Lib.hid (show decRes xs t q = ((rdTo r (backK q) M).take N, 0) by
            rw [HR.out]; unfold restRes; rw [hal2, hpl, hP, decide_eq_false hodd, Bool.false_and]; rfl)
          go_wp2_with fail
          with_reducible refine (of_ok _ _ _ HT.out (by rw [List.length_take]; omega)).mono ?_
          rintro e w10 ⟨y10, rfl, hy10, hf10, hk10⟩
          have HK10 := Lib.hid (HK9.out.trans hk10)
          have HZ10 := Lib.hid (HZ9.out.keeps hk10)
          have z010 := HZ10.out.cell 0 _ rfl
          have z110 := HZ10.out.cell 1 _ rfl
          have zf10 := HZ10.out.frozen
          clear hk10
          obtain ⟨a10, cap10, rfl⟩ := hy10.shape
          have hlN : ((rdTo r (backK q) M).take N).length = N := by rw [List.length_take, hlr]; omega
          have HY10 := Lib.hid hy10
          rw [hlN] at HY10 hf10
          simp only [RB.val, hlN]
          have HF10 := Lib.hid hf10
          clear hy10 hf10
          go_wp2_with fail
          refine fwd_ret_of ?_
          refine bodyPost_ret (v := .tuple #[.agg #[.int .i64 N, .slice a10 ((N + 7) / 8) cap10], .int .i64 0]) (by simp [results, Try.results55, go_sem, *]) rfl ?_
          have hs9 : w.heap.size < w9.heap.size := HZ9.out.lt
          refine ⟨⟨N, a10, (N + 7) / 8, cap10, pack ((rdTo r (backK q) M).take N)⟩, by first | (rw [HRR.out]; done) | (rw [HRR.out]; rfl), by rw [HRR.out]; exact (HY10.out.put HF10.out hs9 _ _).put HF10.out hs9 _ _, HF10.out.mono (by omega), ?_⟩
          repeat (with_reducible refine Keeps.setCell ?_ (by first | (simp; done) | (simp; omega) | exact Nat.le_refl _) _)
          exact HK10.out
theorem decode_any (a : Option Addr) (n cap : Nat) (xs : List Smp) (at_ q : Int) (w : World) (hx : SRow w a n cap xs) (hn : n ≤ 100000) (h1 : -9223372036854775808 ≤ q) (h2 : q ≤ 9223372036854775807) :
    Calls Try.prog 55 #[.slice a n cap, .int .i64 at_, .int .i64 q] w fun e w' => Res w w' e (decRes xs at_ q) := by
  by_cases h : 0 ≤ at_ ∧ at_ ≤ (n : Int) - 14
  · obtain ⟨t, rfl⟩ : ∃ t : Nat, at_ = t := ⟨at_.toNat, by omega⟩
    exact decode_in a n cap xs t q w hx hn (by omega) h1 h2
  · exact decode_out a n cap xs at_ q w hx hn h h1 h2
end Go.Proofs.Ytdjbalaicfienaa
