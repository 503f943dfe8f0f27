/- The walk of layer 20, 7: Same of two lists of signals. -/
import Derived.Test.YtcophhdlcjemeaaT11
import Derived.Test.YtcophhdlcjemeaaLater
namespace Go.Proofs.Ytcophhdlcjemeaa
open Go.RowKit
set_option linter.unusedVariables false
set_option linter.unusedSimpArgs false
instance : DecidableEq (Int × Int × Int × List Nat) := inferInstance
instance : DecidableEq PSig := inferInstanceAs (DecidableEq (Int × Int × Int × Int × Int × List Nat))
theorem sigSame_p (x y : RSig) : sigSame x y = decide (x.p = y.p) := by
  rw [Bool.eq_iff_iff]
  unfold sigSame spanSame sameRes RSig.p
  simp only [Bool.and_eq_true, decide_eq_true_eq, Prod.mk.injEq]
  constructor
  · rintro ⟨h1, ⟨h2, h3⟩, h4, h5, h6⟩; exact ⟨h1, h2, h3, h4, h5, h6⟩
  · rintro ⟨h1, h2, h3, h4, h5, h6⟩; exact ⟨h1, ⟨h2, h3⟩, h4, h5, h6⟩
/-- are they the same? -/
def sigsSame (xs ys : List RSig) : Bool := decide (xs.map RSig.p = ys.map RSig.p)
theorem sigsSame_len {xs ys : List RSig} (h : xs.length ≠ ys.length) : sigsSame xs ys = false := by
  refine decide_eq_false fun e => h ?_
  have := congrArg List.length e
  simpa using this
theorem sigsSame_at {xs ys : List RSig} (k : Nat) (hx : k < xs.length) (hy : k < ys.length) (h : sigSame xs[k] ys[k] = false) : sigsSame xs ys = false := by
  refine decide_eq_false fun e => ?_
  rw [sigSame_p, decide_eq_false_iff_not] at h
  refine h ?_
  have := congrArg (fun l => l[k]?) e
  simp only [List.getElem?_map, List.getElem?_eq_getElem hx, List.getElem?_eq_getElem hy, Option.map_some, Option.some.injEq] at this
  exact this
theorem take_same {xs ys : List RSig} (k : Nat) (hx : k < xs.length) (hy : k < ys.length) (ht : (xs.take k).map RSig.p = (ys.take k).map RSig.p) (h : sigSame xs[k] ys[k] = true) : (xs.take (k + 1)).map RSig.p = (ys.take (k + 1)).map RSig.p := by
  rw [List.take_succ_eq_append_getElem hx, List.take_succ_eq_append_getElem hy, List.map_append, List.map_append, ht]
  rw [sigSame_p, decide_eq_true_eq] at h
  simp [h]
set_option maxRecDepth 100000 in
set_option maxHeartbeats 1000000 in
theorem rsame20_any (a : Option Addr) (n cap : Nat) (xs : List RSig) (a2 : Option Addr) (n2 cap2 : Nat) (ys : List RSig) (w : World) (hx : RSs w a n cap xs) (hy : RSs w a2 n2 cap2 ys) :
    Calls Try.prog 50 #[.slice a n cap, .slice a2 n2 cap2] w fun e w' => e = .returned (.bool (sigsSame xs ys)) ∧ Keeps w w' := by
  have hlen := hx.len
  have hcap := hx.hcap
  have hmax := hx.hmax
  have hlen2 := hy.len
  have hcap2 := hy.hcap
  have hmax2 := hy.hmax
  have HX := Lib.hid hx
  have HY := Lib.hid hy
  clear hx hy
  by_cases hn : n = n2
  case neg =>
    have d1 : ((n : Int) != (n2 : Int)) = true := by rw [bne_iff_ne]; omega
    have d2 : (n == n2) = false := by rw [beq_eq_false_iff_ne]; exact hn
    have HE := Lib.hid (sigsSame_len (xs := xs) (ys := ys) (by omega))
    clear hlen hlen2
    go_enter Try.func50, Try.ntmps50
    go_wp2_with fail
    go_ret
    exact ⟨ret_bool HE.out.symm, Keeps.refl _⟩
  subst hn
  have HL := Lib.hid hlen
  have HL2 := Lib.hid hlen2
  clear hlen hlen2
  have d1 : ((n : Int) != (n : Int)) = false := by simp
  go_enter Try.func50, Try.ntmps50
  go_wp2_with fail
  go_loopw [5] (fun i wr => ∃ k : Nat, k ≤ n ∧ i = .int .i64 k ∧ Hid ((xs.take k).map RSig.p = (ys.take k).map RSig.p) ∧ Hid (Keeps w wr)) (fun i _ => n - (intOf i).toNat)
  case atStart => exact ⟨0, Nat.zero_le _, rfl, Lib.hid (by simp), Lib.hid (Keeps.refl w)⟩
  case round =>
    obtain ⟨k, hk, rfl, HT, HK⟩ := hrel
    by_cases hlt : k < n
    · obtain ⟨b, off, hab, hcell⟩ := (HX.out.keeps HK.out).addr (by rw [HL.out]; omega)
      obtain ⟨b2, off2, hab2, hcell2⟩ := (HY.out.keeps HK.out).addr (by rw [HL2.out]; omega)
      subst hab hab2
      have hk' : k < xs.length := by rw [HL.out]; exact hlt
      have hk2 : k < ys.length := by rw [HL2.out]; exact hlt
      have hcell := hcell k hk'
      have hcell2 := hcell2 k hk2
      have HIN := Lib.hid ((HX.out.keeps HK.out).isIn xs[k] (List.getElem_mem _))
      have HIN2 := Lib.hid ((HY.out.keeps HK.out).isIn ys[k] (List.getElem_mem _))
      have HF := Lib.hid (sigsSame_at (xs := xs) (ys := ys) k hk' hk2)
      have HS := Lib.hid (take_same (xs := xs) (ys := ys) k hk' hk2 HT.out)
      obtain ⟨x, hx⟩ : ∃ x, x = xs[k] := ⟨_, rfl⟩
      obtain ⟨y, hy⟩ : ∃ y, y = ys[k] := ⟨_, rfl⟩
      rw [← hx] at hcell HIN HF HS
      rw [← hy] at hcell2 HIN2 HF HS
      clear hx hy hk' hk2
      obtain ⟨R, hR⟩ : ∃ R, R = sigSame x y := ⟨_, rfl⟩
      have HCA : Hid (∀ w, x.b.In w → y.b.In w → Calls Try.prog 48 #[x.val, y.val] w fun e w' => e = .returned (.bool R) ∧ Keeps w w') := Lib.hid (fun w h1 h2 => by rw [hR]; exact rsigsame_any x y w h1 h2)
      rw [← hR] at HF HS
      clear hR
      obtain ⟨fr, f, t, lv, bn, ba, blen, bcap, bls⟩ := x
      obtain ⟨fr2, f2, t2, lv2, bn2, ba2, blen2, bcap2, bls2⟩ := y
      have c0 := hcell 0 _ rfl
      have c1 := hcell 1 _ rfl
      have c2 := hcell 2 _ rfl
      have c3 := hcell 3 _ rfl
      have c4 := hcell 4 _ rfl
      have c5 := hcell 5 _ rfl
      have d0 := hcell2 0 _ rfl
      have d1 := hcell2 1 _ rfl
      have d2 := hcell2 2 _ rfl
      have d3 := hcell2 3 _ rfl
      have d4 := hcell2 4 _ rfl
      have d5 := hcell2 5 _ rfl
      clear hcell hcell2
      simp only [Nat.add_zero] at c0 d0
      have l0 : ∀ z : Later wr, z.w.cell? ⟨b, off + k * 6, none⟩ = _ := fun z => z.keeps.later c0
      have l1 : ∀ z : Later wr, z.w.cell? ⟨b, off + k * 6 + 1, none⟩ = _ := fun z => z.keeps.later c1
      have l2 : ∀ z : Later wr, z.w.cell? ⟨b, off + k * 6 + 2, none⟩ = _ := fun z => z.keeps.later c2
      have l3 : ∀ z : Later wr, z.w.cell? ⟨b, off + k * 6 + 3, none⟩ = _ := fun z => z.keeps.later c3
      have l4 : ∀ z : Later wr, z.w.cell? ⟨b, off + k * 6 + 4, none⟩ = _ := fun z => z.keeps.later c4
      have l5 : ∀ z : Later wr, z.w.cell? ⟨b, off + k * 6 + 5, none⟩ = _ := fun z => z.keeps.later c5
      have e0 : ∀ z : Later wr, z.w.cell? ⟨b2, off2 + k * 6, none⟩ = _ := fun z => z.keeps.later d0
      have e1 : ∀ z : Later wr, z.w.cell? ⟨b2, off2 + k * 6 + 1, none⟩ = _ := fun z => z.keeps.later d1
      have e2 : ∀ z : Later wr, z.w.cell? ⟨b2, off2 + k * 6 + 2, none⟩ = _ := fun z => z.keeps.later d2
      have e3 : ∀ z : Later wr, z.w.cell? ⟨b2, off2 + k * 6 + 3, none⟩ = _ := fun z => z.keeps.later d3
      have e4 : ∀ z : Later wr, z.w.cell? ⟨b2, off2 + k * 6 + 4, none⟩ = _ := fun z => z.keeps.later d4
      have e5 : ∀ z : Later wr, z.w.cell? ⟨b2, off2 + k * 6 + 5, none⟩ = _ := fun z => z.keeps.later d5
      clear c0 c1 c2 c3 c4 c5 d0 d1 d2 d3 d4 d5
      simp only at HIN HIN2
      go_wp2_with fail
      refine wp_region_later (by kernel_rfl) (by kernel_rfl) ?_
      repeat (go_big_quiet_step (first
        | (go_at_call 48; with_reducible exact Later.calls _ (HCA.out _ (HIN.out.keeps (Later.keeps _)) (HIN2.out.keeps (Later.keeps _))))))
      refine wpQuiet_nil ?_
      rintro _ ⟨q, rfl⟩
      have HK2 := Lib.hid (HK.out.trans q.keeps)
      clear l0 l1 l2 l3 l4 l5 e0 e1 e2 e3 e4 e5
      cases R
      · have HE := Lib.hid (HF.out rfl)
        clear HF HS
        go_wp2_with fail
        go_ret
        exact ⟨ret_bool HE.out.symm, HK2.out⟩
      · have HE := Lib.hid (HS.out rfl)
        clear HF HS
        go_wp2_with fail
        go_roundw
        case rel => exact ⟨k + 1, by omega, by go_num, HE, HK2⟩
        case measure => simp [intOf]; omega
    · obtain rfl : k = n := by omega
      have HE : Hid (sigsSame xs ys = true) := Lib.hid (by
        refine decide_eq_true ?_
        have h := HT.out
        rwa [List.take_of_length_le (by rw [HL.out]; exact Nat.le_refl _), List.take_of_length_le (by rw [HL2.out]; exact Nat.le_refl _)] at h)
      go_wp2_with fail
      go_ret
      exact ⟨ret_bool HE.out.symm, HK.out⟩
end Go.Proofs.Ytcophhdlcjemeaa
