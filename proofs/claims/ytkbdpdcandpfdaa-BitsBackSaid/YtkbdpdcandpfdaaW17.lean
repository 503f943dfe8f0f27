/- A part of bits, on the reference's side. -/
import Derived.Test.YtkbdpdcandpfdaaW16
import Derived.Test.YtkbdpdcandpfdaaPlainInto
namespace Go.Proofs.Ytkbdpdcandpfdaa
open Go.RowKit
set_option linter.unusedVariables false
set_option linter.unusedSimpArgs false

/-- may these be the ends of a part? -/
def partOk (n f t : Int) : Bool := decide (0 ≤ f) && (decide (f ≤ t) && decide (t ≤ n))
def sliceRes (x : RB) (f t : Int) : List Bool × Int :=
  if chk x.n x.l then (if partOk x.n f t then (part x.bits f.toNat t.toNat, 0) else ([], 2)) else ([], 10)

/-- a part of a row -/
theorem RowV.cut {w : World} {a : Option Addr} {n : Nat} {vs : List Value} (h : RowV w a n vs) (f t cap : Nat) (h1 : f ≤ t) (h2 : t ≤ n) (hc : n ≤ cap) :
    RowV w (if cap = f then a else a.map (·.add f)) (t - f) ((vs.drop f).take (t - f)) := by
  have hl := h.1
  refine ⟨by simp; omega, fun i hi => ?_⟩
  obtain ⟨b, off, hab, hv⟩ := h.2 (f + i) (by omega)
  subst hab
  have e : ((vs.drop f).take (t - f))[i]? = vs[f + i]? := by
    rw [List.getElem?_take, if_pos hi, List.getElem?_drop]
  rw [e]
  rw [if_neg (by omega)]
  by_cases h0 : f = 0
  · subst h0
    exact ⟨b, off, rfl, by simpa using hv⟩
  · exact ⟨b, off + f, by simp [Addr.add, h0], by rw [Nat.add_assoc]; exact hv⟩
theorem Bools.cut0 {w : World} {a : Option Addr} {len cap : Nat} {bs : List Bool} (h : Bools w (.slice a len cap) bs) (f t : Nat) (h1 : f ≤ t) (h2 : t ≤ bs.length) :
    Bools w (.slice (if cap = f then a else a.map (·.add f)) (t - f) (cap - f)) (part bs f t) := by
  obtain ⟨a', cap', he, hc, hm, hr⟩ := h.shape
  simp only [Value.slice.injEq] at he
  obtain ⟨rfl, rfl, rfl⟩ := he
  have hl := part_len bs f t h2
  refine ⟨_, _, by rw [hl], by omega, by omega, ?_⟩
  have := hr.cut f t cap h1 h2 hc
  rw [hl, show (part bs f t).map Value.bool = ((bs.map Value.bool).drop f).take (t - f) by simp [part, List.map_take, List.map_drop]]
  exact this
theorem Bools.cut {w : World} {a : Option Addr} {len cap : Nat} {bs : List Bool} (h : Bools w (.slice a len cap) bs) (f t : Nat) (h1 : f ≤ t) (h2 : t ≤ bs.length) (hc : ¬ cap = f) :
    Bools w (.slice (a.map fun x => x.add f) (t - f) (cap - f)) (part bs f t) := by
  have := h.cut0 f t h1 h2
  rw [if_neg hc] at this
  exact this
theorem Bools.cutEnd {w : World} {a : Option Addr} {len cap : Nat} {bs : List Bool} (h : Bools w (.slice a len cap) bs) (f t : Nat) (h1 : f ≤ t) (h2 : t ≤ bs.length) (hc : cap = f) :
    Bools w (.slice a (t - f) 0) (part bs f t) := by
  have := h.cut0 f t h1 h2
  rw [if_pos hc, hc, Nat.sub_self] at this
  exact this

set_option maxHeartbeats 400000 in
theorem rslice_bad (x : RB) (fv tv : Int) (w : World) (hx : x.In w) (hc : chk x.n x.l = false) :
    Calls Try.prog 19 #[x.val, .int .i64 fv, .int .i64 tv] w fun e w' => e = .returned (.tuple #[RB.zero.val, .int .i64 10]) ∧ Keeps w w' := by
  have HX := Lib.hid hx
  have HC := Lib.hid hc
  clear hx hc
  obtain ⟨n, a, len, cap, l⟩ := x
  show Calls Try.prog 19 #[.agg #[.int .i64 n, .slice a len cap], .int .i64 fv, .int .i64 tv] w _
  go_enter Try.func19, Try.ntmps19
  go_wp2_with fail
  with_reducible refine (rcheck_no ⟨n, a, len, cap, l⟩ _ (by exact HX.out.keeps (((Keeps.refl w).alloc _).alloc _)) HC.out).mono ?_
  rintro e w1 ⟨rfl, hk1⟩
  have hb := (Box.new (w.alloc (.cells #[.int .i64 n, .slice a len cap] 32)) 32 #[.int .i64 0, .slice none 0 0]).keeps hk1
  rw [World.size_alloc] at hb
  have hx0 := hb.cell 0 _ rfl
  have hx1 := hb.cell 1 _ rfl
  have hxf := hb.frozen
  have HK := Lib.hid (((Keeps.refl w).alloc _).alloc _ |>.trans hk1)
  clear hk1 hb
  go_wp2_with fail
  refine bodyPost_ret (by simp [results, Try.results19, go_sem, RB.zero, *]) rfl ⟨rfl, (HK.out.setCell (by simp) _).setCell (by simp) _⟩

set_option maxHeartbeats 1000000 in
theorem rslice_arg (x : RB) (fv tv : Int) (w : World) (hx : x.In w) (hc : chk x.n x.l = true) (ha : partOk x.n fv tv = false) :
    Calls Try.prog 19 #[x.val, .int .i64 fv, .int .i64 tv] w fun e w' => e = .returned (.tuple #[RB.zero.val, .int .i64 2]) ∧ Keeps w w' := by
  have HX := Lib.hid hx
  have HC := Lib.hid hc
  clear hx hc
  obtain ⟨n, a, len, cap, l⟩ := x
  simp only [partOk, Bool.and_eq_false_iff, decide_eq_false_iff_not] at ha
  show Calls Try.prog 19 #[.agg #[.int .i64 n, .slice a len cap], .int .i64 fv, .int .i64 tv] w _
  by_cases h1 : fv < 0
  · have hd1 : decide (fv < 0) = true := by simpa using h1
    clear ha
    go_enter Try.func19, Try.ntmps19
    go_wp2_with fail
    with_reducible refine (rcheck_yes ⟨n, a, len, cap, l⟩ _ (by exact HX.out.keeps (((Keeps.refl w).alloc _).alloc _)) HC.out).mono ?_
    rintro e w1 ⟨rfl, hk1⟩
    have hb := (Box.new (w.alloc (.cells #[.int .i64 n, .slice a len cap] 32)) 32 #[.int .i64 0, .slice none 0 0]).keeps hk1
    have hbb := ((Box.new w 32 #[.int .i64 n, .slice a len cap]).next (.cells #[.int .i64 0, .slice none 0 0] 32)).keeps hk1
    rw [World.size_alloc] at hb
    have hb0 := hbb.cell 0 _ rfl
    have hx0 := hb.cell 0 _ rfl
    have hx1 := hb.cell 1 _ rfl
    have hxf := hb.frozen
    have HK := Lib.hid (((Keeps.refl w).alloc _).alloc _ |>.trans hk1)
    clear hk1 hb hbb
    go_wp2_with fail
    refine bodyPost_ret (by simp [results, Try.results19, go_sem, RB.zero, *]) rfl ⟨rfl, (HK.out.setCell (by simp) _).setCell (by simp) _⟩
  have hd1 : decide (fv < 0) = false := by simpa using h1
  by_cases h2 : tv < fv
  · have hd2 : decide (tv < fv) = true := by simpa using h2
    clear ha
    go_enter Try.func19, Try.ntmps19
    go_wp2_with fail
    with_reducible refine (rcheck_yes ⟨n, a, len, cap, l⟩ _ (by exact HX.out.keeps (((Keeps.refl w).alloc _).alloc _)) HC.out).mono ?_
    rintro e w1 ⟨rfl, hk1⟩
    have hb := (Box.new (w.alloc (.cells #[.int .i64 n, .slice a len cap] 32)) 32 #[.int .i64 0, .slice none 0 0]).keeps hk1
    have hbb := ((Box.new w 32 #[.int .i64 n, .slice a len cap]).next (.cells #[.int .i64 0, .slice none 0 0] 32)).keeps hk1
    rw [World.size_alloc] at hb
    have hb0 := hbb.cell 0 _ rfl
    have hx0 := hb.cell 0 _ rfl
    have hx1 := hb.cell 1 _ rfl
    have hxf := hb.frozen
    have HK := Lib.hid (((Keeps.refl w).alloc _).alloc _ |>.trans hk1)
    clear hk1 hb hbb
    go_wp2_with fail
    refine bodyPost_ret (by simp [results, Try.results19, go_sem, RB.zero, *]) rfl ⟨rfl, (HK.out.setCell (by simp) _).setCell (by simp) _⟩
  have hd2 : decide (tv < fv) = false := by simpa using h2
  have h3 : n < tv := by omega
  have hd3 : decide (n < tv) = true := by simpa using h3
  clear ha
  go_enter Try.func19, Try.ntmps19
  go_wp2_with fail
  with_reducible refine (rcheck_yes ⟨n, a, len, cap, l⟩ _ (by exact HX.out.keeps (((Keeps.refl w).alloc _).alloc _)) HC.out).mono ?_
  rintro e w1 ⟨rfl, hk1⟩
  have hb := (Box.new (w.alloc (.cells #[.int .i64 n, .slice a len cap] 32)) 32 #[.int .i64 0, .slice none 0 0]).keeps hk1
  have hbb := ((Box.new w 32 #[.int .i64 n, .slice a len cap]).next (.cells #[.int .i64 0, .slice none 0 0] 32)).keeps hk1
  rw [World.size_alloc] at hb
  have hb0 := hbb.cell 0 _ rfl
  have hx0 := hb.cell 0 _ rfl
  have hx1 := hb.cell 1 _ rfl
  have hxf := hb.frozen
  have HK := Lib.hid (((Keeps.refl w).alloc _).alloc _ |>.trans hk1)
  clear hk1 hb hbb
  go_wp2_with fail
  refine bodyPost_ret (by simp [results, Try.results19, go_sem, RB.zero, *]) rfl ⟨rfl, (HK.out.setCell (by simp) _).setCell (by simp) _⟩

set_option maxHeartbeats 1000000 in
set_option maxRecDepth 100000 in
theorem rslice_ok (x : RB) (bs : List Bool) (fv tv : Int) (f t : Nat) (w : World) (hfv : fv = f) (htv : tv = t) (hx : x.Is w bs) (h1 : f ≤ t) (h2 : t ≤ bs.length) :
    Calls Try.prog 19 #[x.val, .int .i64 fv, .int .i64 tv] w fun e w' => Res w w' e (part bs f t, 0) := by
  subst hfv htv
  have HC := Lib.hid hx.chk
  have HX := Lib.hid hx
  have hmost := hx.most
  have hres : ofRes (part bs f t) = (part bs f t, 0) := if_pos (by rw [part_len _ _ _ h2]; omega)
  have HRES := Lib.hid hres
  clear hres
  obtain ⟨a, cap, rfl⟩ := hx.shape
  clear hx
  have hd1 : decide ((f : Int) < 0) = false := by simp
  have hd2 : decide ((t : Int) < f) = false := by simp; omega
  have hd3 : decide ((bs.length : Int) < t) = false := by simp; omega
  have hd4 : decide (bs.length < t) = false := by simp; omega
  have hd5 : decide (t < f) = false := by simp; omega
  show Calls Try.prog 19 #[.agg #[.int .i64 bs.length, .slice a ((bs.length + 7) / 8) cap], .int .i64 f, .int .i64 t] w _
  go_enter Try.func19, Try.ntmps19
  go_wp2_with fail
  with_reducible refine (rcheck_yes ⟨bs.length, a, (bs.length + 7) / 8, cap, pack bs⟩ _ (by exact HX.out.isIn.keeps (((Keeps.refl w).alloc _).alloc _)) HC.out).mono ?_
  rintro e w1 ⟨rfl, hk1⟩
  have hbx := (Box.new (w.alloc (.cells #[.int .i64 bs.length, .slice a ((bs.length + 7) / 8) cap] 32)) 32 #[.int .i64 0, .slice none 0 0]).keeps hk1
  have hbb := ((Box.new w 32 #[.int .i64 bs.length, .slice a ((bs.length + 7) / 8) cap]).next (.cells #[.int .i64 0, .slice none 0 0] 32)).keeps hk1
  rw [World.size_alloc] at hbx
  have hb0 := hbb.cell 0 _ rfl
  have hb1 := hbb.cell 1 _ rfl
  have hs1 := hbx.lt
  have HK1 := Lib.hid (((Keeps.refl w).alloc _).alloc _ |>.trans hk1)
  have HBX := Lib.hid hbx
  clear hk1 hbx hbb
  go_wp2_with fail
  with_reducible refine (rlist_ok ⟨bs.length, a, (bs.length + 7) / 8, cap, pack bs⟩ bs _ (by exact HX.out.keeps HK1.out)).mono ?_
  rintro e w2 ⟨lv, rfl, hown, hk2⟩
  have HBX2 := Lib.hid (HBX.out.keeps hk2)
  have hbo := hown.bools
  have HK2 := Lib.hid (HK1.out.trans hk2)
  obtain ⟨la, lcap, rfl, hlc, hlm, -⟩ := hbo.shape
  have HBO := Lib.hid hbo
  clear hk2 hown hb0 hb1 HK1 HBX hbo
  by_cases hcf : lcap = f
  all_goals
    go_wp2_with fail
    with_reducible refine (rof_any _ (part bs f t) _ (by first | exact HBO.out.cut f t h1 h2 hcf | exact HBO.out.cutEnd f t h1 h2 hcf)).mono ?_
    rw [HRES.out]
    rintro e w3 ⟨y, rfl, hy, hf, hk3⟩
    have HY := Lib.hid hy
    have HK3 := Lib.hid (HK2.out.trans hk3)
    have hbx := HBX2.out.keeps hk3
    have hz0 := hbx.cell 0 _ rfl
    have hz1 := hbx.cell 1 _ rfl
    have hzf := hbx.frozen
    have hsz := HBX2.out.lt
    clear hy hk3 hbx HBO HBX2
    obtain ⟨n, b, len, cap2, l2⟩ := y
    go_wp2_with fail
    refine bodyPost_ret (by simp [results, Try.results19, go_sem, RB.val, *]) rfl ⟨⟨n, b, len, cap2, l2⟩, rfl, ?_, fun a ha => ?_, ?_⟩
    · exact (HY.out.put hf (by omega) _ _).put hf (by omega) _ _
    · have := hf a ha; omega
    · exact (HK3.out.setCell (by simp) _).setCell (by simp) _

theorem rslice_any (x : RB) (fv tv : Int) (w : World) (hx : x.In w) :
    Calls Try.prog 19 #[x.val, .int .i64 fv, .int .i64 tv] w fun e w' => Res w w' e (sliceRes x fv tv) := by
  cases hc : chk x.n x.l
  · rw [show sliceRes x fv tv = ([], 10) by unfold sliceRes; simp [hc]]
    exact (rslice_bad x fv tv w hx hc).mono fun e w' h => Res.no h
  cases ha : partOk x.n fv tv
  · rw [show sliceRes x fv tv = ([], 2) by unfold sliceRes; simp [hc, ha]]
    exact (rslice_arg x fv tv w hx hc ha).mono fun e w' h => Res.no h
  have hi : x.Is w x.bits := hx.is hc
  have hn := hi.n
  have ha' := ha
  simp only [partOk, Bool.and_eq_true, decide_eq_true_eq] at ha'
  rw [show sliceRes x fv tv = (part x.bits fv.toNat tv.toNat, 0) by unfold sliceRes; simp [hc, ha]]
  exact rslice_ok x x.bits fv tv fv.toNat tv.toNat w (by omega) (by omega) hi (by omega) (by omega)
end Go.Proofs.Ytkbdpdcandpfdaa
