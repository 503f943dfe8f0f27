/- Results of bits, and the walks of the reference of layer 1, 6: Put. -/
import Derived.Test.YtdjbalaicfienaaW14
import Derived.Test.YtdjbalaicfienaaW13
import Derived.Test.YtdjbalaicfienaaW8
namespace Go.Proofs.Ytdjbalaicfienaa
open Go.RowKit
set_option linter.unusedVariables false
set_option linter.unusedSimpArgs false

/-- what a call answers: bits that may be, and an error's number -/
def Res (w w' : World) (e : Ending) (r : List Bool × Int) : Prop := ∃ y : RB, e = .returned (.tuple #[y.val, .int .i64 r.2]) ∧ y.Is w' r.1 ∧ y.Fr w.heap.size ∧ Keeps w w'
theorem Res.no {w w' : World} {e : Ending} {c : Int} (h : e = .returned (.tuple #[RB.zero.val, .int .i64 c]) ∧ Keeps w w') : Res w w' e ([], c) := ⟨RB.zero, h.1, RB.zero_is _, RB.zero_fr _, h.2⟩
theorem Res.no2 {w w' : World} {e : Ending} {c : Int} {r : List Bool × Int} (hr : r = ([], c)) (h : e = .returned (.tuple #[RB.zero.val, .int .i64 c]) ∧ Keeps w w') : Res w w' e r := by
  subst hr; exact Res.no h

def ofRes (bs : List Bool) : List Bool × Int := if bs.length ≤ 4096 then (bs, 0) else ([], 3)
theorem rof_any (v : Value) (bs : List Bool) (w : World) (hl : Bools w v bs) : Calls Try.prog 88 #[v] w fun e w' => Res w w' e (ofRes bs) := by
  by_cases h : bs.length ≤ 4096
  · have e : ofRes bs = (bs, 0) := if_pos h
    rw [e]
    exact rof_ok v bs w hl h
  · have e : ofRes bs = ([], 3) := if_neg h
    rw [e]
    exact (rof_long v bs w hl (by omega)).mono fun e w' h => Res.no h
def putRes (x : RB) (v : Nat) (wv : Int) : List Bool × Int :=
  if chk x.n x.l then (if putArg v wv then ofRes (x.bits ++ numBits v wv.toNat) else ([], 2)) else ([], 10)
theorem putRes_is {x : RB} {w : World} {bs : List Bool} (h : x.Is w bs) (v : Nat) (wv : Int) : putRes x v wv = if putArg v wv then ofRes (bs ++ numBits v wv.toNat) else ([], 2) := by
  unfold putRes; rw [if_pos h.chk, h.bits]

theorem put_any (x : RB) (v : Nat) (wv : Int) (w : World) (hx : x.In w) (hv : v < 18446744073709551616) :
    Calls Try.prog 62 #[x.val, .int .u64 v, .int .i64 wv] w fun e w' => Res w w' e (putRes x v wv) := by
  cases hc : chk x.n x.l
  · rw [show putRes x v wv = ([], 10) by unfold putRes; simp [hc]]
    exact (put_bad x v wv w hx hc).mono fun e w' h => Res.no h
  cases ha : putArg v wv
  · rw [show putRes x v wv = ([], 2) by unfold putRes; simp [hc, ha]]
    exact (put_arg x v wv w hx hc ha hv).mono fun e w' h => Res.no h
  have hi : x.Is w x.bits := hx.is hc
  have hil : x.bits.length ≤ 4096 := hi.most
  have ha' := ha
  simp only [putArg, Bool.and_eq_true, decide_eq_true_eq] at ha'
  by_cases hl : 4096 < x.bits.length + wv.toNat
  · rw [show putRes x v wv = ([], 3) by rw [putRes_is hi, ha]; simp only [if_true]; unfold ofRes; rw [if_neg (by rw [List.length_append, numBits_len]; omega)]]
    exact (put_long x _ v wv w hi ha hl).mono fun e w' h => Res.no h
  · rw [show putRes x v wv = (x.bits ++ numBits v wv.toNat, 0) by rw [putRes_is hi, ha]; simp only [if_true]; unfold ofRes; rw [if_pos (by rw [List.length_append, numBits_len]; omega)]]
    exact put_ok x _ v wv wv.toNat w (by omega) hi (by omega) ha'.2.2 (by omega)

set_option maxHeartbeats 400000 in
theorem rput_bad (x : RB) (v : Nat) (wv : Int) (w : World) (hx : x.In w) (hc : chk x.n x.l = false) :
    Calls Try.prog 63 #[x.val, .int .u64 v, .int .i64 wv] w fun e w' => e = .returned (.tuple #[RB.zero.val, .int .i64 10]) ∧ Keeps w w' := by
  have HX := Lib.hid hx
  have HC := Lib.hid hc
  clear hx hc
  obtain ⟨n, a, len, cap, l⟩ := x
  show Calls Try.prog 63 #[.agg #[.int .i64 n, .slice a len cap], .int .u64 v, .int .i64 wv] w _
  go_enter Try.func63, Try.ntmps63
  go_wp2_with fail
  with_reducible refine (rcheck_no ⟨n, a, len, cap, l⟩ _ (by exact HX.out.keeps (((Keeps.refl w).alloc _).alloc _)) HC.out).mono ?_
  rintro e w1 ⟨rfl, hk1⟩
  have hb := (Box.new (w.alloc (.cells #[.int .i64 n, .slice a len cap] 26)) 26 #[.int .i64 0, .slice none 0 0]).keeps hk1
  rw [World.size_alloc] at hb
  have hx0 := hb.cell 0 _ rfl
  have hx1 := hb.cell 1 _ rfl
  have hxf := hb.frozen
  have HK := Lib.hid (((Keeps.refl w).alloc _).alloc _ |>.trans hk1)
  clear hk1 hb
  go_wp2_with fail
  refine bodyPost_ret (by simp [results, Try.results63, go_sem, RB.zero, *]) rfl ⟨rfl, (HK.out.setCell (by simp) _).setCell (by simp) _⟩

set_option maxHeartbeats 1000000 in
theorem rput_arg (x : RB) (v : Nat) (wv : Int) (w : World) (hx : x.In w) (hc : chk x.n x.l = true) (ha : putArg v wv = false) (hv : v < 18446744073709551616) :
    Calls Try.prog 63 #[x.val, .int .u64 v, .int .i64 wv] w fun e w' => e = .returned (.tuple #[RB.zero.val, .int .i64 2]) ∧ Keeps w w' := by
  have HX := Lib.hid hx
  have HC := Lib.hid hc
  clear hx hc
  obtain ⟨n, a, len, cap, l⟩ := x
  simp only [putArg, Bool.and_eq_false_iff, decide_eq_false_iff_not] at ha
  show Calls Try.prog 63 #[.agg #[.int .i64 n, .slice a len cap], .int .u64 v, .int .i64 wv] w _
  by_cases h1 : wv < 0
  · have hd1 : decide (wv < 0) = true := by simpa using h1
    clear ha
    go_enter Try.func63, Try.ntmps63
    go_wp2_with fail
    with_reducible refine (rcheck_yes ⟨n, a, len, cap, l⟩ _ (by exact HX.out.keeps (((Keeps.refl w).alloc _).alloc _)) HC.out).mono ?_
    rintro e w1 ⟨rfl, hk1⟩
    have hb := (Box.new (w.alloc (.cells #[.int .i64 n, .slice a len cap] 26)) 26 #[.int .i64 0, .slice none 0 0]).keeps hk1
    rw [World.size_alloc] at hb
    have hx0 := hb.cell 0 _ rfl
    have hx1 := hb.cell 1 _ rfl
    have hxf := hb.frozen
    have HK := Lib.hid (((Keeps.refl w).alloc _).alloc _ |>.trans hk1)
    clear hk1 hb
    go_wp2_with fail
    refine bodyPost_ret (by simp [results, Try.results63, go_sem, RB.zero, *]) rfl ⟨rfl, (HK.out.setCell (by simp) _).setCell (by simp) _⟩
  have hd1 : decide (wv < 0) = false := by simpa using h1
  by_cases h2 : 64 < wv
  · have hd2 : decide (64 < wv) = true := by simpa using h2
    clear ha
    go_enter Try.func63, Try.ntmps63
    go_wp2_with fail
    with_reducible refine (rcheck_yes ⟨n, a, len, cap, l⟩ _ (by exact HX.out.keeps (((Keeps.refl w).alloc _).alloc _)) HC.out).mono ?_
    rintro e w1 ⟨rfl, hk1⟩
    have hb := (Box.new (w.alloc (.cells #[.int .i64 n, .slice a len cap] 26)) 26 #[.int .i64 0, .slice none 0 0]).keeps hk1
    rw [World.size_alloc] at hb
    have hx0 := hb.cell 0 _ rfl
    have hx1 := hb.cell 1 _ rfl
    have hxf := hb.frozen
    have HK := Lib.hid (((Keeps.refl w).alloc _).alloc _ |>.trans hk1)
    clear hk1 hb
    go_wp2_with fail
    refine bodyPost_ret (by simp [results, Try.results63, go_sem, RB.zero, *]) rfl ⟨rfl, (HK.out.setCell (by simp) _).setCell (by simp) _⟩
  have hd2 : decide (64 < wv) = false := by simpa using h2
  obtain ⟨m, rfl⟩ := Int.eq_ofNat_of_zero_le (show 0 ≤ wv by omega)
  rw [Int.toNat_natCast] at ha
  have h4 : ¬ v < 2 ^ m := by
    rcases ha with ha | ha | ha
    · omega
    · omega
    · exact ha
  have h3 : (m : Int) < 64 := by
    by_cases h : m = 64
    · subst h; omega
    · omega
  have hd3 : decide ((m : Int) < 64) = true := by simpa using h3
  have hd4 : ((v : Int) / 2 ^ m != 0) = true := by
    rw [bne_iff_ne]
    have hp : 0 < 2 ^ m := Nat.pow_pos (by decide)
    have : 0 < v / 2 ^ m := Nat.div_pos (by omega) hp
    have e : ((v : Int) / 2 ^ m) = ((v / 2 ^ m : Nat) : Int) := by simp
    rw [e]; omega
  clear ha h4
  go_enter Try.func63, Try.ntmps63
  go_wp2_with fail
  with_reducible refine (rcheck_yes ⟨n, a, len, cap, l⟩ _ (by exact HX.out.keeps (((Keeps.refl w).alloc _).alloc _)) HC.out).mono ?_
  rintro e w1 ⟨rfl, hk1⟩
  have hb := (Box.new (w.alloc (.cells #[.int .i64 n, .slice a len cap] 26)) 26 #[.int .i64 0, .slice none 0 0]).keeps hk1
  rw [World.size_alloc] at hb
  have hx0 := hb.cell 0 _ rfl
  have hx1 := hb.cell 1 _ rfl
  have hxf := hb.frozen
  have HK := Lib.hid (((Keeps.refl w).alloc _).alloc _ |>.trans hk1)
  clear hk1 hb
  go_wp2_with fail
  refine bodyPost_ret (by simp [results, Try.results63, go_sem, RB.zero, *]) rfl ⟨rfl, (HK.out.setCell (by simp) _).setCell (by simp) _⟩


theorem put_getD (bs : List Bool) (v width k : Nat) (h : k < width) : (bs ++ numBits v width).getD (bs.length + k) false = v.testBit (width - 1 - k) := by
  rw [List.getD_eq_getElem?_getD, List.getElem?_append_right (by omega), show bs.length + k - bs.length = k by omega, ← List.getD_eq_getElem?_getD, numBits_getD _ _ _ h]
theorem tmod_test (q : Nat) : ((q : Int).tmod 2 == 1) = decide (q % 2 = 1) := by
  rw [Int.tmod_eq_emod_of_nonneg (by omega)]
  by_cases h : q % 2 = 1
  · simp only [h, decide_true, beq_iff_eq]; omega
  · simp only [h, decide_false, beq_eq_false_iff_ne, ne_eq]; omega
theorem rem_test (v m : Nat) : (((v : Int) / 2 ^ m).tmod 2 == 1) = v.testBit m := by
  have e : ((v : Int) / 2 ^ m) = ((v / 2 ^ m : Nat) : Int) := by simp
  rw [e, tmod_test, Nat.testBit_eq_decide_div_mod_eq]

set_option maxHeartbeats 1000000 in
set_option maxRecDepth 100000 in
theorem rput_ok (x : RB) (bs : List Bool) (v : Nat) (wv : Int) (width : Nat) (w : World) (hwv : wv = width) (hx : x.Is w bs) (h64 : width ≤ 64) (hv : v < 2 ^ width) :
    Calls Try.prog 63 #[x.val, .int .u64 v, .int .i64 wv] w fun e w' => Res w w' e (ofRes (bs ++ numBits v width)) := by
  subst hwv
  have HC := Lib.hid hx.chk
  have HX := Lib.hid hx
  have hmost := hx.most
  obtain ⟨a, cap, rfl⟩ := hx.shape
  clear hx
  have hd1 : decide ((width : Int) < 0) = false := by simp
  have hd2 : decide ((64 : Int) < width) = false := by simp; omega
  have hd4 : ((v : Int) / 2 ^ width != 0) = false := by
    rw [bne_eq_false_iff_eq]
    have e : ((v : Int) / 2 ^ width) = ((v / 2 ^ width : Nat) : Int) := by simp
    rw [e, Nat.div_eq_of_lt hv]; rfl
  have HRS := Lib.hid (show Nat → True from fun _ => trivial)
  show Calls Try.prog 63 #[.agg #[.int .i64 bs.length, .slice a ((bs.length + 7) / 8) cap], .int .u64 v, .int .i64 width] w _
  by_cases h3 : (width : Int) < 64
  all_goals
    first
      | have hd3 : decide ((width : Int) < 64) = true := by simpa using h3
      | have hd3 : decide ((width : Int) < 64) = false := by simpa using h3
    go_enter Try.func63, Try.ntmps63
    go_wp2_with fail
    with_reducible refine (rcheck_yes ⟨bs.length, a, (bs.length + 7) / 8, cap, pack bs⟩ _ (by exact HX.out.isIn.keeps (((Keeps.refl w).alloc _).alloc _)) HC.out).mono ?_
    rintro e w1 ⟨rfl, hk1⟩
    have hbx := (Box.new (w.alloc (.cells #[.int .i64 bs.length, .slice a ((bs.length + 7) / 8) cap] 26)) 26 #[.int .i64 0, .slice none 0 0]).keeps hk1
    have hbb := ((Box.new w 26 #[.int .i64 bs.length, .slice a ((bs.length + 7) / 8) cap]).next (.cells #[.int .i64 0, .slice none 0 0] 26)).keeps hk1
    rw [World.size_alloc] at hbx
    have hb0 := hbb.cell 0 _ rfl
    have hb1 := hbb.cell 1 _ rfl
    have hs1 := hbx.lt
    have HK1 := Lib.hid (((Keeps.refl w).alloc _).alloc _ |>.trans hk1)
    have HBX := Lib.hid hbx
    clear hk1 hbx hbb
    go_wp2_with fail
    with_reducible refine (rlist_ok ⟨bs.length, a, (bs.length + 7) / 8, cap, pack bs⟩ bs _ (by exact HX.out.keeps HK1.out)).mono ?_
    rintro e w2 ⟨lv, rfl, hown, hk2⟩
    have HBX2 := Lib.hid (HBX.out.keeps hk2)
    have HO2 := Lib.hid (hown.mono (show w.heap.size + 2 ≤ _ by omega))
    have HK2 := Lib.hid (HK1.out.trans hk2)
    clear hk2 hown hb0 hb1 HK1 HBX hs1
    go_wp2_with fail
    clear hd1 hd2 hd3 hd4
    go_loopw [8, 9] (fun l i wr => ∃ k : Nat, k ≤ width ∧ i = .int .i64 ((width : Int) - 1 - k) ∧ Hid (Own wr (w.heap.size + 2) 4 l (bVals (bs ++ numBits v width) (bs.length + k))) ∧
        Hid (Box wr (w.heap.size + 1) 26 #[.int .i64 0, .slice none 0 0]) ∧ Hid (Keeps w wr)) (fun _ i _ => ((intOf i) + 1).toNat)
    case atStart =>
      refine ⟨0, by omega, by simp, ?_, HBX2, HK2⟩
      have e : bVals (bs ++ numBits v width) (bs.length + 0) = bs.map Value.bool := by simp [bVals]
      rw [e]
      exact HO2
    case round =>
      clear HBX2 HO2 HK2
      obtain ⟨k, hk, rfl, HO, HX1, HK⟩ := hrel
      by_cases hlt : k < width
      · obtain ⟨m, hm⟩ : ∃ m : Nat, (width : Int) - 1 - k = m := ⟨width - 1 - k, by omega⟩
        have hmw : m = width - 1 - k := by omega
        rw [hm]
        have hd : decide ((0 : Int) ≤ m) = true := by simp
        have hsz := HX1.out.lt
        go_wp2_with (refine wpList_push rfl (.tmp 40) (.tmp 47) 102 rfl 4 1 (.bool false) Try.underlying102 info_bool rfl (w.heap.size + 2) _ _ rfl (by exact HO.out.keeps ((Keeps.refl _).alloc _)) _ _ rfl (by exact World.cell?_alloc_new _ _ _ _) rfl ?h1 ?h2 ?h3 ?hmain)
        case h1 => rw [bVals_len _ _ (by rw [List.length_append, numBits_len]; omega)]; omega
        case h2 => rw [bVals_len _ _ (by rw [List.length_append, numBits_len]; omega)]; omega
        case h3 => simp; omega
        case hmain =>
          intro v2 w3 hown hbel
          have HX13 := Lib.hid ((HX1.out.next _).below hbel (by omega))
          have HK3 : Hid (Keeps w w3) := (HK.out.alloc _).below hbel (by omega)
          have HO3 : Hid (Own w3 (w.heap.size + 2) 4 v2 (bVals (bs ++ numBits v width) (bs.length + (k + 1)))) := by
            rw [← Nat.add_assoc, bVals_succ _ _ (by rw [List.length_append, numBits_len]; omega), put_getD _ _ _ _ hlt, ← rem_test]; exact hown
          clear hown hbel HX1 HO HK hsz
          go_wp2_with fail
          go_roundw
          case rel => exact ⟨k + 1, by omega, by go_num, HO3, HX13, HK3⟩
          case measure => simp [intOf]; omega
      · obtain rfl : k = width := by omega
        have hd : decide ((0 : Int) ≤ (k : Int) - 1 - k) = false := by simp; omega
        have hx0 := HX1.out.cell 0 _ rfl
        have hx1 := HX1.out.cell 1 _ rfl
        have hxf := HX1.out.frozen
        have HOB : Hid (Own wr (w.heap.size + 2) 4 u8 ((bs ++ numBits v k).map Value.bool)) := by
          have e : (bs ++ numBits v k).map Value.bool = bVals (bs ++ numBits v k) (bs.length + k) := by
            rw [← bVals_all]; congr 1; rw [List.length_append, numBits_len]
          rw [e]; exact HO
        go_wp2_with fail
        with_reducible refine (rof_any _ (bs ++ numBits v k) _ (by exact HOB.out.bools)).mono ?_
        rintro e w3 ⟨y, rfl, hy, hf, hk3⟩
        have HY := Lib.hid hy
        have HK3 := Lib.hid (HK.out.trans hk3)
        have hbx := HX1.out.keeps hk3
        have hz0 := hbx.cell 0 _ rfl
        have hz1 := hbx.cell 1 _ rfl
        have hzf := hbx.frozen
        have hsz := HX1.out.lt
        have hszk := HK.out.size
        clear hy hk3 hbx HO HX1
        obtain ⟨n, b, len, cap2, l2⟩ := y
        go_wp2_with fail
        refine bodyPost_ret (by simp [results, Try.results63, go_sem, RB.val, *]) rfl ⟨⟨n, b, len, cap2, l2⟩, rfl, ?_, fun a ha => ?_, ?_⟩
        · exact (HY.out.put hf (by omega) _ _).put hf (by omega) _ _
        · have := hf a ha; omega
        · exact (HK3.out.setCell (by simp) _).setCell (by simp) _


theorem rput_any (x : RB) (v : Nat) (wv : Int) (w : World) (hx : x.In w) (hv : v < 18446744073709551616) :
    Calls Try.prog 63 #[x.val, .int .u64 v, .int .i64 wv] w fun e w' => Res w w' e (putRes x v wv) := by
  cases hc : chk x.n x.l
  · rw [show putRes x v wv = ([], 10) by unfold putRes; simp [hc]]
    exact (rput_bad x v wv w hx hc).mono fun e w' h => Res.no h
  cases ha : putArg v wv
  · rw [show putRes x v wv = ([], 2) by unfold putRes; simp [hc, ha]]
    exact (rput_arg x v wv w hx hc ha hv).mono fun e w' h => Res.no h
  have hi : x.Is w x.bits := hx.is hc
  have hil : x.bits.length ≤ 4096 := hi.most
  have ha' := ha
  simp only [putArg, Bool.and_eq_true, decide_eq_true_eq] at ha'
  rw [putRes_is hi, ha, if_pos rfl]
  exact rput_ok x _ v wv wv.toNat w (by omega) hi (by omega) ha'.2.2
end Go.Proofs.Ytdjbalaicfienaa
