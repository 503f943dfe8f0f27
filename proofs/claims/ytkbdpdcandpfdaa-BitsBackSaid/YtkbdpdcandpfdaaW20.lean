/- The walks of the reference of layer 1, 7: Flip. -/
import Derived.Test.YtkbdpdcandpfdaaW15
import Derived.Test.YtkbdpdcandpfdaaQTail
import Derived.BigQuiet
namespace Go.Proofs.Ytkbdpdcandpfdaa
open Go.RowKit
set_option linter.unusedVariables false
set_option linter.unusedSimpArgs false

/-- a slice of numbers -/
structure Ints (w : World) (v : Value) (zs : List Int) : Prop where
  shape : ∃ a cap, v = .slice a zs.length cap ∧ zs.length ≤ cap ∧ cap ≤ 9223372036854775807 ∧ RowV w a zs.length (zs.map (Value.int .i64))
theorem Ints.keeps {w w' : World} {v : Value} {zs : List Int} (h : Ints w v zs) (hk : Keeps w w') : Ints w' v zs := by
  obtain ⟨a, cap, h1, h2, h3, h4⟩ := h.shape
  exact ⟨a, cap, h1, h2, h3, h4.keeps hk⟩
theorem Own.ints {w : World} {base t : Nat} {v : Value} {zs : List Int} (h : Own w base t v (zs.map (Value.int .i64))) : Ints w v zs := by
  obtain ⟨a, cap, h1, h2, h3, h4⟩ := h.shape
  simp only [List.length_map] at h1 h2 h4
  exact ⟨a, cap, h1, h2, h3, h4⟩
theorem RowV.intAt {w : World} {a : Option Addr} {zs : List Int} (h : RowV w a zs.length (zs.map (Value.int .i64))) (h0 : 0 < zs.length) :
    ∃ b off, a = some ⟨b, off, none⟩ ∧ (∀ i, i < zs.length → w.cell? ⟨b, off + i, none⟩ = some (.int .i64 (zs.getD i 0))) ∧ b < w.heap.size := by
  obtain ⟨b, off, h1, h2, h3⟩ := h.addr h0
  refine ⟨b, off, h1, fun i hi => ?_, h3⟩
  rw [h2 i hi]
  simp [List.getD_eq_getElem?_getD, hi]
/-- a truth of a list that the call itself has made -/
theorem Own.bitAt {w : World} {base t : Nat} {a : Option Addr} {n cap : Nat} {bs : List Bool} (h : Own w base t (.slice a n cap) (bs.map Value.bool)) (j : Nat) (hj : j < bs.length) :
    ∃ g, a = some ⟨g, 0, none⟩ ∧ n = bs.length ∧ base ≤ g ∧ g < w.heap.size ∧ w.cell? ⟨g, j, none⟩ = some (.bool (bs.getD j false)) ∧ w.frozen? ⟨g, j, none⟩ = false ∧
      ∀ (w1 : World) (b : Bool), w1.heap[g]? = w.heap[g]? → Own (w1.setCell ⟨g, j, none⟩ (.bool b)) base t (.slice a n cap) ((bs.set j b).map Value.bool) := by
  have h' := h
  obtain ⟨hlen, hr⟩ := h
  rcases hr with ⟨hv, hn⟩ | ⟨g, cap', cur, hv, hbg, hg, rest⟩
  · rw [List.length_map] at hn; omega
  · simp only [Value.slice.injEq] at hv
    obtain ⟨rfl, rfl, rfl⟩ := hv
    have hc := World.ownsRow.cellAt h' j (by simpa using hj)
    refine ⟨g, rfl, by simp, hbg, (Array.getElem?_eq_some_iff.1 hg).1, ?_, World.ownsRow.frozenAt h' j, fun w1 b hw => ?_⟩
    · rw [hc]; simp [List.getD_eq_getElem?_getD, hj]
    · have h1 : Own w1 base t _ (bs.map Value.bool) := h'.block fun k hk => by
        simp only [Value.ownBlock, Option.some.injEq] at hk
        subst hk
        exact hw
      have h2 := (World.ownsRow.stored h1 j (.bool b)).1
      unfold Own
      rw [List.map_set, List.length_set]
      exact h2

/-- a bit turned -/
def flip1 (bs : List Bool) (i : Int) : List Bool := bs.set i.toNat (!bs.getD i.toNat false)
/-- the first k of them turned -/
def flips (bs : List Bool) (zs : List Int) (k : Nat) : List Bool := (zs.take k).foldl flip1 bs
theorem foldl_flip_len : ∀ (zs : List Int) (bs : List Bool), (zs.foldl flip1 bs).length = bs.length
  | [], bs => rfl
  | z :: zs, bs => by rw [List.foldl_cons, foldl_flip_len zs]; simp [flip1]
theorem flips_len (bs : List Bool) (zs : List Int) (k : Nat) : (flips bs zs k).length = bs.length := foldl_flip_len _ _
theorem flips_zero (bs : List Bool) (zs : List Int) : flips bs zs 0 = bs := rfl
theorem flips_succ (bs : List Bool) (zs : List Int) (k : Nat) (h : k < zs.length) : flips bs zs (k + 1) = flip1 (flips bs zs k) (zs.getD k 0) := by
  unfold flips
  rw [List.take_succ_eq_append_getElem h, List.foldl_append]
  simp [List.getD_eq_getElem?_getD, h]
def inN (n i : Int) : Bool := decide (0 ≤ i) && decide (i < n)
def flipIs (bs : List Bool) (zs : List Int) : List Bool × Int := if zs.all (inN bs.length) then (flips bs zs zs.length, 0) else ([], 2)
def flipRes (x : RB) (zs : List Int) : List Bool × Int := if chk x.n x.l then flipIs x.bits zs else ([], 10)
theorem flipIs_yes (bs : List Bool) (zs : List Int) (h : ∀ j, j < zs.length → inN bs.length (zs.getD j 0) = true) : flipIs bs zs = (flips bs zs zs.length, 0) := by
  unfold flipIs
  rw [if_pos]
  rw [List.all_eq_true]
  intro z hz
  obtain ⟨j, hj, rfl⟩ := List.getElem_of_mem hz
  have := h j hj
  simpa [List.getD_eq_getElem?_getD, hj] using this
theorem flipIs_no (bs : List Bool) (zs : List Int) (j : Nat) (hj : j < zs.length) (h : inN bs.length (zs.getD j 0) = false) : flipIs bs zs = ([], 2) := by
  unfold flipIs
  rw [if_neg]
  rw [List.all_eq_true]
  intro hall
  have := hall zs[j] (List.getElem_mem hj)
  rw [show zs.getD j 0 = zs[j] by simp [List.getD_eq_getElem?_getD, hj]] at h
  rw [h] at this
  cases this

set_option maxHeartbeats 400000 in
theorem rflip_bad (x : RB) (v : Value) (w : World) (hx : x.In w) (hc : chk x.n x.l = false) :
    Calls Try.prog 52 #[x.val, v] w fun e w' => e = .returned (.tuple #[RB.zero.val, .int .i64 10]) ∧ Keeps w w' := by
  have HX := Lib.hid hx
  have HC := Lib.hid hc
  clear hx hc
  obtain ⟨n, a, len, cap, l⟩ := x
  show Calls Try.prog 52 #[.agg #[.int .i64 n, .slice a len cap], v] w _
  go_enter Try.func52, Try.ntmps52
  go_wp2_with fail
  with_reducible refine (rcheck_no ⟨n, a, len, cap, l⟩ _ (by exact HX.out.keeps (((Keeps.refl w).alloc _).alloc _)) HC.out).mono ?_
  rintro e w1 ⟨rfl, hk1⟩
  have hb := (Box.new (w.alloc (.cells #[.int .i64 n, .slice a len cap] 32)) 32 #[.int .i64 0, .slice none 0 0]).keeps hk1
  rw [World.size_alloc] at hb
  have hx0 := hb.cell 0 _ rfl
  have hx1 := hb.cell 1 _ rfl
  have hxf := hb.frozen
  have HK := Lib.hid (((Keeps.refl w).alloc _).alloc _ |>.trans hk1)
  clear hk1 hb
  go_wp2_with fail
  refine bodyPost_ret (by simp [results, Try.results52, go_sem, RB.zero, *]) rfl ⟨rfl, (HK.out.setCell (by simp) _).setCell (by simp) _⟩

set_option maxHeartbeats 2000000 in
set_option maxRecDepth 100000 in
theorem rflip_ok (x : RB) (bs : List Bool) (v : Value) (zs : List Int) (w : World) (hx : x.Is w bs) (hz : Ints w v zs) :
    Calls Try.prog 52 #[x.val, v] w fun e w' => Res w w' e (flipIs bs zs) := by
  have HC := Lib.hid hx.chk
  have HX := Lib.hid hx
  have hmost := hx.most
  obtain ⟨a, cap, rfl⟩ := hx.shape
  clear hx
  obtain ⟨za, zcap, rfl, hzc, hzm, hzr⟩ := hz.shape
  have HZ := Lib.hid hzr
  clear hz hzr
  show Calls Try.prog 52 #[.agg #[.int .i64 bs.length, .slice a ((bs.length + 7) / 8) cap], .slice za zs.length zcap] w _
  go_enter Try.func52, Try.ntmps52
  go_wp2_with fail
  with_reducible refine (rcheck_yes ⟨bs.length, a, (bs.length + 7) / 8, cap, pack bs⟩ _ (by exact HX.out.isIn.keeps (((Keeps.refl w).alloc _).alloc _)) HC.out).mono ?_
  rintro e w1 ⟨rfl, hk1⟩
  have hbx := (Box.new (w.alloc (.cells #[.int .i64 bs.length, .slice a ((bs.length + 7) / 8) cap] 32)) 32 #[.int .i64 0, .slice none 0 0]).keeps hk1
  have hbb := ((Box.new w 32 #[.int .i64 bs.length, .slice a ((bs.length + 7) / 8) cap]).next (.cells #[.int .i64 0, .slice none 0 0] 32)).keeps hk1
  rw [World.size_alloc] at hbx
  have hb0 := hbb.cell 0 _ rfl
  have hb1 := hbb.cell 1 _ rfl
  have hs1 := hbx.lt
  have HK1 := Lib.hid (((Keeps.refl w).alloc _).alloc _ |>.trans hk1)
  have HBX := Lib.hid hbx
  have HBB := Lib.hid hbb
  clear hk1 hbx hbb
  go_wp2_with fail
  with_reducible refine (rlist_ok ⟨bs.length, a, (bs.length + 7) / 8, cap, pack bs⟩ bs _ (by exact HX.out.keeps HK1.out)).mono ?_
  rintro e w2 ⟨lv, rfl, hown, hk2⟩
  have hown2 := hown.mono (show w.heap.size + 2 ≤ _ by omega)
  obtain ⟨la, lcap, rfl, hlc, hlm, -⟩ := hown2.shape
  simp only [List.length_map] at hlc hown2 ⊢
  have HBX2 := Lib.hid (HBX.out.keeps hk2)
  have HBB2 := Lib.hid (HBB.out.keeps hk2)
  have HO2 := Lib.hid hown2
  have HK2 := Lib.hid (HK1.out.trans hk2)
  clear hk2 hown hown2 hb0 hb1 HK1 HBX HBB hs1
  go_wp2_with fail
  go_loopw [7] (fun i wr => ∃ k : Nat, k ≤ zs.length ∧ i = .int .i64 k ∧ Hid (∀ j, j < k → inN bs.length (zs.getD j 0) = true) ∧ Hid (Own wr (w.heap.size + 2) 4 (.slice la bs.length lcap) ((flips bs zs k).map Value.bool)) ∧
      Hid (Box wr (w.heap.size + 1) 32 #[.int .i64 0, .slice none 0 0]) ∧ Hid (Box wr w.heap.size 32 #[.int .i64 bs.length, .slice a ((bs.length + 7) / 8) cap]) ∧ Hid (Keeps w wr)) (fun i _ => zs.length - (intOf i).toNat)
  case atStart => exact ⟨0, by omega, by simp, fun j hj => by omega, HO2, HBX2, HBB2, HK2⟩
  case round =>
    clear HBX2 HBB2 HO2 HK2
    obtain ⟨k, hk, rfl, HI, HO, HX1, HX2, HK⟩ := hrel
    by_cases hlt : k < zs.length
    · obtain ⟨zb, zo, rfl, hzc', hzb⟩ := HZ.out.intAt (by omega)
      have hcell := HK.out.later (hzc' k hlt)
      obtain ⟨z, hz⟩ : ∃ z, zs.getD k 0 = z := ⟨_, rfl⟩
      rw [hz] at hcell
      have HZE := Lib.hid hz
      clear hz hzc'
      have hb0 := HX2.out.cell 0 _ rfl
      have hx0 := HX1.out.cell 0 _ rfl
      have hx1 := HX1.out.cell 1 _ rfl
      have hxf := HX1.out.frozen
      by_cases hz0 : z < 0
      · have hd1 : decide (z < 0) = true := by simpa using hz0
        have hno : inN bs.length z = false := by simp only [inN, Bool.and_eq_false_iff, decide_eq_false_iff_not]; omega
        have HN := Lib.hid hno
        clear hno
        go_wp2_with fail
        go_quiet (fail)
        go_wp2_with fail
        refine bodyPost_ret (by simp [results, Try.results52, go_sem, RB.zero, *]) rfl (Res.no2 (flipIs_no bs zs k hlt (by rw [HZE.out]; exact HN.out)) ⟨rfl, ((HK.out.drewN _).setCell (by simp) _).setCell (by simp) _⟩)
      have hd1 : decide (z < 0) = false := by simpa using hz0
      obtain ⟨m, hm⟩ : ∃ m : Nat, z = m := ⟨z.toNat, by omega⟩
      subst hm
      by_cases hzn : bs.length ≤ m
      · have hd2 : decide ((bs.length : Int) ≤ m) = true := by simpa using hzn
        have hd3 : decide (bs.length ≤ m) = true := by simpa using hzn
        have hno : inN bs.length m = false := by simp only [inN, Bool.and_eq_false_iff, decide_eq_false_iff_not]; omega
        have HN := Lib.hid hno
        clear hno
        go_wp2_with fail
        go_quiet (fail)
        go_wp2_with fail
        refine bodyPost_ret (by simp [results, Try.results52, go_sem, RB.zero, *]) rfl (Res.no2 (flipIs_no bs zs k hlt (by rw [HZE.out]; exact HN.out)) ⟨rfl, ((HK.out.drewN _).setCell (by simp) _).setCell (by simp) _⟩)
      have hd2 : decide ((bs.length : Int) ≤ m) = false := by simpa using hzn
      have hd3 : decide (bs.length ≤ m) = false := by simpa using hzn
      have hyes : inN bs.length m = true := by simp only [inN, Bool.and_eq_true, decide_eq_true_eq]; omega
      have HI2 : Hid (∀ j, j < k + 1 → inN bs.length (zs.getD j 0) = true) := fun j hj => by
        by_cases h : j = k
        · subst h; rw [HZE.out]; exact hyes
        · exact HI.out j (by omega)
      clear hyes
      obtain ⟨g, rfl, -, hbg, hgl, hgc, hgf, hst⟩ := HO.out.bitAt m (by rw [flips_len]; omega)
      have HST := Lib.hid hst
      clear hst
      obtain ⟨b, hb⟩ : ∃ b, (flips bs zs k).getD m false = b := ⟨_, rfl⟩
      rw [hb] at hgc
      have HBE := Lib.hid hb
      clear hb
      go_wp2_with fail
      go_quiet (fail)
      go_wp2_with fail
      refine wp_region_quiet_tail_lit 14 (by kernel_rfl) (by kernel_rfl) ?_
      simp only [List.take_succ_cons, List.take_zero, List.drop_succ_cons, List.drop_zero]
      repeat (go_big_quiet_step (fail))
      refine wpQuiet_nil ?_
      rintro _ ⟨nq2, rfl⟩
      go_wp2_with fail
      have HKN := Lib.hid (HK.out.drewN (nq + nq2))
      have HX1N := Lib.hid (HX1.out.keeps ((Keeps.refl wr).drewN (nq + nq2)))
      have HX2N := Lib.hid (HX2.out.keeps ((Keeps.refl wr).drewN (nq + nq2)))
      have HON := Lib.hid (HST.out (wr.drewN (nq + nq2)) (!b) (by simp))
      have he : (flips bs zs k).set m (!b) = flips bs zs (k + 1) := by
        rw [flips_succ _ _ _ hlt, HZE.out]; unfold flip1; rw [Int.toNat_natCast, HBE.out]
      rw [he] at HON
      go_roundw
      case rel =>
        refine ⟨k + 1, by omega, by go_num, HI2, HON, ?_, ?_, ?_⟩
        · exact HX1N.out.keepsBut (KeepsBut.setCell _ _ _ _) (by omega)
        · exact HX2N.out.keepsBut (KeepsBut.setCell _ _ _ _) (by omega)
        · exact HKN.out.setCell (by simp; omega) _
      case measure => simp [intOf]; omega
    · obtain rfl : k = zs.length := by omega
      have hx0 := HX1.out.cell 0 _ rfl
      have hx1 := HX1.out.cell 1 _ rfl
      have hxf := HX1.out.frozen
      have HRES := Lib.hid (show ofRes (flips bs zs zs.length) = flipIs bs zs by rw [flipIs_yes bs zs HI.out]; exact if_pos (by rw [flips_len]; exact hmost))
      go_wp2_with fail
      with_reducible refine (rof_any _ (flips bs zs zs.length) _ (by exact HO.out.bools)).mono ?_
      rw [HRES.out]
      rintro e w3 ⟨y, rfl, hy, hf, hk3⟩
      have HY := Lib.hid hy
      have HK3 := Lib.hid (HK.out.trans hk3)
      have hbx := HX1.out.keeps hk3
      have hz0 := hbx.cell 0 _ rfl
      have hz1 := hbx.cell 1 _ rfl
      have hzf := hbx.frozen
      have hsz := HX1.out.lt
      have HF := Lib.hid hf
      clear hy hk3 hbx HO HX1 hx0 hx1 hxf hf
      obtain ⟨n, b, len, cap2, l2⟩ := y
      go_wp2_with fail
      refine bodyPost_ret (by simp [results, Try.results52, go_sem, RB.val, *]) rfl ⟨⟨n, b, len, cap2, l2⟩, rfl, ?_, fun a ha => ?_, ?_⟩
      · exact (HY.out.put HF.out (by omega) _ _).put HF.out (by omega) _ _
      · have := HF.out a ha; omega
      · exact (HK3.out.setCell (by simp) _).setCell (by simp) _

theorem rflip_any (x : RB) (v : Value) (zs : List Int) (w : World) (hx : x.In w) (hz : Ints w v zs) :
    Calls Try.prog 52 #[x.val, v] w fun e w' => Res w w' e (flipRes x zs) := by
  cases hc : chk x.n x.l
  · exact (rflip_bad x v w hx hc).mono fun e w' h => Res.no2 (by unfold flipRes; simp [hc]) h
  · rw [show flipRes x zs = flipIs x.bits zs by unfold flipRes; simp [hc]]
    exact rflip_ok x x.bits v zs w (hx.is hc) hz
end Go.Proofs.Ytkbdpdcandpfdaa
