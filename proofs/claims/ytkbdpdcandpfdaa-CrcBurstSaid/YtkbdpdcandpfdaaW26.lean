/- The walks of layer 2, 5: Burst on both sides. -/
import Derived.Test.YtkbdpdcandpfdaaW25
namespace Go.Proofs.Ytkbdpdcandpfdaa
open Go.RowKit
set_option linter.unusedVariables false
set_option linter.unusedSimpArgs false

/-- the places of the first k bits of a pattern, from a place on -/
def onesAt (pat at_ k : Nat) : List Int := ((List.range k).filter fun i => pat.testBit i).map fun i : Nat => ((at_ + i : Nat) : Int)
theorem onesAt_zero (pat at_ : Nat) : onesAt pat at_ 0 = [] := rfl
theorem onesAt_yes (pat at_ k : Nat) (h : pat.testBit k = true) : onesAt pat at_ (k + 1) = onesAt pat at_ k ++ [((at_ + k : Nat) : Int)] := by
  unfold onesAt
  rw [List.range_succ, List.filter_append, List.map_append, List.filter_cons, if_pos h, List.filter_nil]
  rfl
theorem onesAt_no (pat at_ k : Nat) (h : pat.testBit k = false) : onesAt pat at_ (k + 1) = onesAt pat at_ k := by
  unfold onesAt
  rw [List.range_succ, List.filter_append, List.map_append, List.filter_cons, if_neg (by rw [h]; decide), List.filter_nil]
  simp
theorem onesAt_len (pat at_ k : Nat) : (onesAt pat at_ k).length ≤ k := by
  unfold onesAt
  rw [List.length_map]
  exact Nat.le_trans (List.length_filter_le _ _) (by simp)
theorem onesAt_past (pat at_ k j : Nat) (h : pat / 2 ^ k = 0) : onesAt pat at_ (k + j) = onesAt pat at_ k := by
  induction j with
  | zero => rfl
  | succ j ih =>
    rw [← Nat.add_assoc, onesAt_no _ _ _ ?_, ih]
    have hp : 2 ^ k ≤ 2 ^ (k + j) := Nat.pow_le_pow_right (by decide) (by omega)
    have : pat < 2 ^ k := by
      rcases Nat.div_eq_zero_iff.1 h with h' | h'
      · exact absurd h' (Nat.pos_iff_ne_zero.1 (Nat.pow_pos (by decide)))
      · exact h'
    exact Nat.testBit_lt_two_pow (by omega)
theorem onesAt_in (pat at_ k n : Nat) (h : at_ + k ≤ n) : ∀ z ∈ onesAt pat at_ k, inN n z = true := by
  intro z hz
  unfold onesAt at hz
  simp only [List.mem_map, List.mem_filter, List.mem_range] at hz
  obtain ⟨i, ⟨hi, -⟩, rfl⟩ := hz
  simp only [inN, Bool.and_eq_true, decide_eq_true_eq]; omega
def atOk (n av : Int) : Bool := decide (0 ≤ av) && decide (av ≤ n)
def burstIs (bs : List Bool) (at_ pat : Nat) : List Bool × Int := flipIs bs (onesAt pat at_ (min 32 (bs.length - at_)))
def burstRes (x : RB) (av : Int) (pat : Nat) : List Bool × Int :=
  if chk x.n x.l then (if atOk x.n av then burstIs x.bits av.toNat pat else ([], 2)) else ([], 10)
theorem and_one_test32 (v k : Nat) (hv : v < 4294967296) : (bits .and .u32 ((v : Int) / 2 ^ k) 1 == 1) = v.testBit k := by
  have e : ((v : Int) / 2 ^ k) = ((v / 2 ^ k : Nat) : Int) := by simp
  have hle : v / 2 ^ k ≤ v := Nat.div_le_self _ _
  rw [e, show (1 : Int) = ((1 : Nat) : Int) from rfl, u32_and_nat _ _ (by omega) (by decide), nat_mask1, Nat.testBit_eq_decide_div_mod_eq]
  by_cases h : v / 2 ^ k % 2 = 1
  · simp [h]
  · simp only [h, decide_false, beq_eq_false_iff_ne, ne_eq]; omega
theorem shr_zero (v k : Nat) : ((v : Int) / 2 ^ k != 0) = decide (v / 2 ^ k ≠ 0) := by
  have e : ((v : Int) / 2 ^ k) = ((v / 2 ^ k : Nat) : Int) := by simp
  rw [e]
  by_cases h : v / 2 ^ k = 0
  · rw [h]; decide
  · rw [decide_eq_true h, bne_iff_ne]; omega

set_option maxHeartbeats 1000000 in
set_option maxRecDepth 100000 in
theorem burst_no (x : RB) (av : Int) (pat : Nat) (w : World) (hx : x.In w) (c : Int) (hc : (chk x.n x.l = false ∧ c = 10) ∨ (chk x.n x.l = true ∧ atOk x.n av = false ∧ c = 2)) :
    Calls Try.prog 45 #[x.val, .int .i64 av, .int .u32 pat] w fun e w' => e = .returned (.tuple #[RB.zero.val, .int .i64 c]) ∧ Keeps w w' := by
  have HX := Lib.hid hx
  clear hx
  obtain ⟨n, a, len, cap, l⟩ := x
  simp only at hc
  show Calls Try.prog 45 #[.agg #[.int .i64 n, .slice a len cap], .int .i64 av, .int .u32 pat] w _
  have HK0 := Lib.hid (((Keeps.refl w).alloc (.cells #[.int .i64 n, .slice a len cap] 32)).alloc (.cells #[.int .i64 0, .slice none 0 0] 32))
  have hxa := (Box.new w 32 #[.int .i64 n, .slice a len cap]).next (.cells #[.int .i64 0, .slice none 0 0] 32)
  have hxz := (Box.new (w.alloc (.cells #[.int .i64 n, .slice a len cap] 32)) 32 #[.int .i64 0, .slice none 0 0])
  rw [World.size_alloc] at hxz
  have HXA := Lib.hid hxa
  have HXZ := Lib.hid hxz
  clear hxa hxz
  go_enter Try.func45, Try.ntmps45
  go_wp2_with fail
  rcases hc with ⟨hc, rfl⟩ | ⟨hc, ha, rfl⟩
  · with_reducible refine (check_no ⟨n, a, len, cap, l⟩ _ (by exact HX.out.keeps HK0.out) hc).mono ?_
    rintro e w1 ⟨rfl, hk1⟩
    have HK1 := Lib.hid (HK0.out.trans hk1)
    have hb := HXZ.out.keeps hk1
    have hx0 := hb.cell 0 _ rfl
    have hx1 := hb.cell 1 _ rfl
    have hxf := hb.frozen
    clear hk1 hb HXA HXZ HK0
    go_wp2_with fail
    refine bodyPost_ret (by simp [results, Try.results45, go_sem, RB.zero, *]) rfl ⟨rfl, (HK1.out.setCell (by simp) _).setCell (by simp) _⟩
  · with_reducible refine (check_yes ⟨n, a, len, cap, l⟩ _ (by exact HX.out.keeps HK0.out) hc).mono ?_
    rintro e w1 ⟨rfl, hk1⟩
    have HK1 := Lib.hid (HK0.out.trans hk1)
    have hb := HXZ.out.keeps hk1
    have hx0 := hb.cell 0 _ rfl
    have hx1 := hb.cell 1 _ rfl
    have hxf := hb.frozen
    have hba := HXA.out.keeps hk1
    have ha0 := hba.cell 0 _ rfl
    clear hk1 hb hba HXA HXZ HK0
    simp only [atOk, Bool.and_eq_false_iff, decide_eq_false_iff_not] at ha
    by_cases h1 : av < 0
    · have hd1 : decide (av < 0) = true := by simpa using h1
      clear ha
      go_wp2_with fail
      refine bodyPost_ret (by simp [results, Try.results45, go_sem, RB.zero, *]) rfl ⟨rfl, (HK1.out.setCell (by simp) _).setCell (by simp) _⟩
    · have hd1 : decide (av < 0) = false := by simpa using h1
      have h2 : n < av := by omega
      have hd2 : decide (n < av) = true := by simpa using h2
      clear ha
      go_wp2_with fail
      refine bodyPost_ret (by simp [results, Try.results45, go_sem, RB.zero, *]) rfl ⟨rfl, (HK1.out.setCell (by simp) _).setCell (by simp) _⟩

set_option maxHeartbeats 2000000 in
set_option maxRecDepth 100000 in
theorem burst_ok (x : RB) (bs : List Bool) (av : Int) (at_ pat : Nat) (w : World) (hav : av = at_) (hx : x.Is w bs) (hat : at_ ≤ bs.length) (hpat : pat < 4294967296) :
    Calls Try.prog 45 #[x.val, .int .i64 av, .int .u32 pat] w fun e w' => Res w w' e (burstIs bs at_ pat) := by
  subst hav
  have HC := Lib.hid hx.chk
  have HX := Lib.hid hx
  have HXB := Lib.hid hx.bits
  have hmost := hx.most
  obtain ⟨a, cap, rfl⟩ := hx.shape
  clear hx
  show Calls Try.prog 45 #[.agg #[.int .i64 bs.length, .slice a ((bs.length + 7) / 8) cap], .int .i64 at_, .int .u32 pat] w _
  have HK0 := Lib.hid (((Keeps.refl w).alloc (.cells #[.int .i64 bs.length, .slice a ((bs.length + 7) / 8) cap] 32)).alloc (.cells #[.int .i64 0, .slice none 0 0] 32))
  have hxa := (Box.new w 32 #[.int .i64 bs.length, .slice a ((bs.length + 7) / 8) cap]).next (.cells #[.int .i64 0, .slice none 0 0] 32)
  have hxz := (Box.new (w.alloc (.cells #[.int .i64 bs.length, .slice a ((bs.length + 7) / 8) cap] 32)) 32 #[.int .i64 0, .slice none 0 0])
  rw [World.size_alloc] at hxz
  have HXA := Lib.hid hxa
  have HXZ := Lib.hid hxz
  clear hxa hxz
  have hd1 : decide ((at_ : Int) < 0) = false := by simp
  have hd2 : decide ((bs.length : Int) < at_) = false := by simp; omega
  have hd3 : decide (bs.length < at_) = false := by simp; omega
  go_enter Try.func45, Try.ntmps45
  go_wp2_with fail
  with_reducible refine (check_yes ⟨bs.length, a, (bs.length + 7) / 8, cap, pack bs⟩ _ (by exact HX.out.isIn.keeps HK0.out) HC.out).mono ?_
  rintro e w1 ⟨rfl, hk1⟩
  have HK1 := Lib.hid (HK0.out.trans hk1)
  have HXZ1 := Lib.hid (HXZ.out.keeps hk1)
  have HXA1 := Lib.hid (HXA.out.keeps hk1)
  have hb0 := HXA1.out.cell 0 _ rfl
  have hb1 := HXA1.out.cell 1 _ rfl
  have hsz := HXZ1.out.lt
  clear hk1 HXA HXZ HK0
  go_wp2_with fail
  clear hd1 hd2 hd3
  go_loopw [8, 9] (fun l i wr => ∃ k : Nat, k ≤ min 32 (bs.length - at_) ∧ i = .int .i64 k ∧ Hid (Own wr w1.heap.size 3 l ((onesAt pat at_ k).map (Value.int .i64))) ∧ Hid (Keeps w1 wr)) (fun _ i _ => 32 - (intOf i).toNat)
  case atStart => exact ⟨0, by omega, rfl, Own.nil _ _ _, Keeps.refl _⟩
  case round =>
    obtain ⟨k, hk, rfl, HO, HK⟩ := hrel
    have hws := HK.out.size
    have p0 := HK.out.later hb0
    have p1 := HK.out.later hb1
    have hsub : (bs.length : Int) - at_ = ((bs.length - at_ : Nat) : Int) := by omega
    by_cases hz : pat / 2 ^ k = 0
    · have hn : ((pat : Int) / 2 ^ k != 0) = false := by rw [shr_zero]; simp [hz]
      have HOE : Hid (onesAt pat at_ k = onesAt pat at_ (min 32 (bs.length - at_))) := by
        have := onesAt_past pat at_ k (min 32 (bs.length - at_) - k) hz
        rw [← this]; congr 1; omega
      clear hz
      go_wp2_with fail

      with_reducible refine (flip_any ⟨bs.length, a, (bs.length + 7) / 8, cap, pack bs⟩ _ (onesAt pat at_ k) _ (by exact (HX.out.keeps (HK1.out.trans HK.out)).isIn) (by exact HO.out.ints)).mono ?_
      rintro e w3 ⟨y, rfl, hy, hf, hk3⟩
      have hres : flipRes ⟨bs.length, a, (bs.length + 7) / 8, cap, pack bs⟩ (onesAt pat at_ k) = burstIs bs at_ pat := by
        unfold flipRes burstIs; rw [if_pos HC.out, HXB.out, HOE.out]
      rw [hres] at hy ⊢
      have HY := Lib.hid hy
      have HF := Lib.hid hf
      have HZB := Lib.hid (HXZ1.out.keeps (HK.out.trans hk3))
      have HK3 := Lib.hid ((HK1.out.trans HK.out).trans hk3)
      have hz0 := HZB.out.cell 0 _ rfl
      have hz1 := HZB.out.cell 1 _ rfl
      have hzf := HZB.out.frozen
      clear hy hf hk3 HO HK p0 p1 hb0 hb1 hres
      obtain ⟨n', b', len', cap', l'⟩ := y
      go_wp2_with fail
      refine bodyPost_ret (by simp [results, Try.results45, go_sem, RB.val, *]) rfl ⟨⟨n', b', len', cap', l'⟩, rfl, ?_, fun a ha => ?_, ?_⟩
      · exact (RB.Is.put (b := w.heap.size + 1) (RB.Is.put (b := w.heap.size + 1) HY.out HF.out (by omega) _ _) HF.out (by omega) _ _)
      · have := HF.out a ha; have := HK1.out.size; omega
      · exact (HK3.out.setCell (by simp) _).setCell (by simp) _
    · have hn : ((pat : Int) / 2 ^ k != 0) = true := by rw [shr_zero]; simp [hz]
      have hk32 : k < 32 := by
        rcases Nat.lt_or_ge k 32 with h | h
        · exact h
        · exfalso; apply hz
          have : 2 ^ 32 ≤ 2 ^ k := Nat.pow_le_pow_right (by decide) h
          exact Nat.div_eq_of_lt (by omega)
      by_cases hlt : k < bs.length - at_
      · have hd1 : decide ((k : Int) < ((bs.length - at_ : Nat) : Int)) = true := by simp; omega
        have hd2 : decide (k < bs.length - at_) = true := by simp; omega
        obtain ⟨b, hb⟩ : ∃ b, pat.testBit k = b := ⟨_, rfl⟩
        have htest := and_one_test32 pat k hpat
        rw [hb] at htest
        have HBE := Lib.hid hb
        clear hb hz
        cases b
        · go_wp2_with fail
          go_roundw
          case rel => exact ⟨k + 1, by omega, by go_num, by rw [onesAt_no _ _ _ HBE.out]; exact HO, HK⟩
          case measure => simp [intOf]; omega
        · skip
          have HOL := Lib.hid (onesAt_len pat at_ k)
          go_wp2_with (refine wpList_push rfl (.tmp 44) (.tmp 48) 63 rfl 3 8 (.int .i64 0) Try.underlying63 info_int rfl w1.heap.size _ _ rfl (by exact HO.out.keeps ((Keeps.refl _).alloc _)) _ _ rfl (by exact World.cell?_alloc_new _ _ _ _) rfl ?h1 ?h2 ?h3 ?hmain)
          case h1 => rw [List.length_map]; have := HOL.out; omega
          case h2 => rw [List.length_map]; have := HOL.out; omega
          case h3 => simp; omega
          case hmain =>
            intro v2 w3 hown hbel
            have HO3 : Hid (Own w3 w1.heap.size 3 v2 ((onesAt pat at_ (k + 1)).map (Value.int .i64))) := by
              rw [onesAt_yes _ _ _ HBE.out, List.map_append]
              rw [show ((at_ + k : Nat) : Int) = (at_ : Int) + k by omega]
              exact hown
            have HK3 : Hid (Keeps w1 w3) := (HK.out.alloc _).below hbel (Nat.le_refl _)
            clear hown hbel HO HK
            go_wp2_with fail
            go_roundw
            case rel => exact ⟨k + 1, by omega, by go_num, HO3, HK3⟩
            case measure => simp [intOf]; omega
      · have hd1 : decide ((k : Int) < ((bs.length - at_ : Nat) : Int)) = false := by simp; omega
        have hd2 : decide (k < bs.length - at_) = false := by simp; omega
        have HOE : Hid (onesAt pat at_ k = onesAt pat at_ (min 32 (bs.length - at_))) := by
          have : k = min 32 (bs.length - at_) := by omega
          rw [← this]; exact rfl
        clear hz
        go_wp2_with fail

        with_reducible refine (flip_any ⟨bs.length, a, (bs.length + 7) / 8, cap, pack bs⟩ _ (onesAt pat at_ k) _ (by exact (HX.out.keeps (HK1.out.trans HK.out)).isIn) (by exact HO.out.ints)).mono ?_
        rintro e w3 ⟨y, rfl, hy, hf, hk3⟩
        have hres : flipRes ⟨bs.length, a, (bs.length + 7) / 8, cap, pack bs⟩ (onesAt pat at_ k) = burstIs bs at_ pat := by
          unfold flipRes burstIs; rw [if_pos HC.out, HXB.out, HOE.out]
        rw [hres] at hy ⊢
        have HY := Lib.hid hy
        have HF := Lib.hid hf
        have HZB := Lib.hid (HXZ1.out.keeps (HK.out.trans hk3))
        have HK3 := Lib.hid ((HK1.out.trans HK.out).trans hk3)
        have hz0 := HZB.out.cell 0 _ rfl
        have hz1 := HZB.out.cell 1 _ rfl
        have hzf := HZB.out.frozen
        clear hy hf hk3 HO HK p0 p1 hb0 hb1 hres
        obtain ⟨n', b', len', cap', l'⟩ := y
        go_wp2_with fail
        refine bodyPost_ret (by simp [results, Try.results45, go_sem, RB.val, *]) rfl ⟨⟨n', b', len', cap', l'⟩, rfl, ?_, fun a ha => ?_, ?_⟩
        · exact (RB.Is.put (b := w.heap.size + 1) (RB.Is.put (b := w.heap.size + 1) HY.out HF.out (by omega) _ _) HF.out (by omega) _ _)
        · have := HF.out a ha; have := HK1.out.size; omega
        · exact (HK3.out.setCell (by simp) _).setCell (by simp) _

theorem burst_any (x : RB) (av : Int) (pat : Nat) (w : World) (hx : x.In w) (hpat : pat < 4294967296) :
    Calls Try.prog 45 #[x.val, .int .i64 av, .int .u32 pat] w fun e w' => Res w w' e (burstRes x av pat) := by
  cases hc : chk x.n x.l
  · exact (burst_no x av pat w hx 10 (.inl ⟨hc, rfl⟩)).mono fun e w' h => Res.no2 (by unfold burstRes; simp [hc]) h
  cases ha : atOk x.n av
  · exact (burst_no x av pat w hx 2 (.inr ⟨hc, ha, rfl⟩)).mono fun e w' h => Res.no2 (by unfold burstRes; simp [hc, ha]) h
  have hi : x.Is w x.bits := hx.is hc
  have hn := hi.n
  have ha' := ha
  simp only [atOk, Bool.and_eq_true, decide_eq_true_eq] at ha'
  rw [show burstRes x av pat = burstIs x.bits av.toNat pat by unfold burstRes; simp [hc, ha]]
  exact burst_ok x _ av av.toNat pat w (by omega) hi (by omega) hpat

set_option maxHeartbeats 1000000 in
set_option maxRecDepth 100000 in
theorem rburst_no (x : RB) (av : Int) (pat : Nat) (w : World) (hx : x.In w) (c : Int) (hc : (chk x.n x.l = false ∧ c = 10) ∨ (chk x.n x.l = true ∧ atOk x.n av = false ∧ c = 2)) :
    Calls Try.prog 46 #[x.val, .int .i64 av, .int .u32 pat] w fun e w' => e = .returned (.tuple #[RB.zero.val, .int .i64 c]) ∧ Keeps w w' := by
  have HX := Lib.hid hx
  clear hx
  obtain ⟨n, a, len, cap, l⟩ := x
  simp only at hc
  show Calls Try.prog 46 #[.agg #[.int .i64 n, .slice a len cap], .int .i64 av, .int .u32 pat] w _
  have HK0 := Lib.hid (((Keeps.refl w).alloc (.cells #[.int .i64 n, .slice a len cap] 32)).alloc (.cells #[.int .i64 0, .slice none 0 0] 32))
  have hxa := (Box.new w 32 #[.int .i64 n, .slice a len cap]).next (.cells #[.int .i64 0, .slice none 0 0] 32)
  have hxz := (Box.new (w.alloc (.cells #[.int .i64 n, .slice a len cap] 32)) 32 #[.int .i64 0, .slice none 0 0])
  rw [World.size_alloc] at hxz
  have HXA := Lib.hid hxa
  have HXZ := Lib.hid hxz
  clear hxa hxz
  go_enter Try.func46, Try.ntmps46
  go_wp2_with fail
  rcases hc with ⟨hc, rfl⟩ | ⟨hc, ha, rfl⟩
  · with_reducible refine (rcheck_no ⟨n, a, len, cap, l⟩ _ (by exact HX.out.keeps HK0.out) hc).mono ?_
    rintro e w1 ⟨rfl, hk1⟩
    have HK1 := Lib.hid (HK0.out.trans hk1)
    have hb := HXZ.out.keeps hk1
    have hx0 := hb.cell 0 _ rfl
    have hx1 := hb.cell 1 _ rfl
    have hxf := hb.frozen
    clear hk1 hb HXA HXZ HK0
    go_wp2_with fail
    refine bodyPost_ret (by simp [results, Try.results46, go_sem, RB.zero, *]) rfl ⟨rfl, (HK1.out.setCell (by simp) _).setCell (by simp) _⟩
  · with_reducible refine (rcheck_yes ⟨n, a, len, cap, l⟩ _ (by exact HX.out.keeps HK0.out) hc).mono ?_
    rintro e w1 ⟨rfl, hk1⟩
    have HK1 := Lib.hid (HK0.out.trans hk1)
    have hb := HXZ.out.keeps hk1
    have hx0 := hb.cell 0 _ rfl
    have hx1 := hb.cell 1 _ rfl
    have hxf := hb.frozen
    have hba := HXA.out.keeps hk1
    have ha0 := hba.cell 0 _ rfl
    clear hk1 hb hba HXA HXZ HK0
    simp only [atOk, Bool.and_eq_false_iff, decide_eq_false_iff_not] at ha
    by_cases h1 : av < 0
    · have hd1 : decide (av < 0) = true := by simpa using h1
      clear ha
      go_wp2_with fail
      refine bodyPost_ret (by simp [results, Try.results46, go_sem, RB.zero, *]) rfl ⟨rfl, (HK1.out.setCell (by simp) _).setCell (by simp) _⟩
    · have hd1 : decide (av < 0) = false := by simpa using h1
      have h2 : n < av := by omega
      have hd2 : decide (n < av) = true := by simpa using h2
      clear ha
      go_wp2_with fail
      refine bodyPost_ret (by simp [results, Try.results46, go_sem, RB.zero, *]) rfl ⟨rfl, (HK1.out.setCell (by simp) _).setCell (by simp) _⟩

set_option maxHeartbeats 2000000 in
set_option maxRecDepth 100000 in
theorem rburst_ok (x : RB) (bs : List Bool) (av : Int) (at_ pat : Nat) (w : World) (hav : av = at_) (hx : x.Is w bs) (hat : at_ ≤ bs.length) (hpat : pat < 4294967296) :
    Calls Try.prog 46 #[x.val, .int .i64 av, .int .u32 pat] w fun e w' => Res w w' e (burstIs bs at_ pat) := by
  subst hav
  have HC := Lib.hid hx.chk
  have HX := Lib.hid hx
  have HXB := Lib.hid hx.bits
  have hmost := hx.most
  obtain ⟨a, cap, rfl⟩ := hx.shape
  clear hx
  show Calls Try.prog 46 #[.agg #[.int .i64 bs.length, .slice a ((bs.length + 7) / 8) cap], .int .i64 at_, .int .u32 pat] w _
  have HK0 := Lib.hid (((Keeps.refl w).alloc (.cells #[.int .i64 bs.length, .slice a ((bs.length + 7) / 8) cap] 32)).alloc (.cells #[.int .i64 0, .slice none 0 0] 32))
  have hxa := (Box.new w 32 #[.int .i64 bs.length, .slice a ((bs.length + 7) / 8) cap]).next (.cells #[.int .i64 0, .slice none 0 0] 32)
  have hxz := (Box.new (w.alloc (.cells #[.int .i64 bs.length, .slice a ((bs.length + 7) / 8) cap] 32)) 32 #[.int .i64 0, .slice none 0 0])
  rw [World.size_alloc] at hxz
  have HXA := Lib.hid hxa
  have HXZ := Lib.hid hxz
  clear hxa hxz
  have hd1 : decide ((at_ : Int) < 0) = false := by simp
  have hd2 : decide ((bs.length : Int) < at_) = false := by simp; omega
  have hd3 : decide (bs.length < at_) = false := by simp; omega
  go_enter Try.func46, Try.ntmps46
  go_wp2_with fail
  with_reducible refine (rcheck_yes ⟨bs.length, a, (bs.length + 7) / 8, cap, pack bs⟩ _ (by exact HX.out.isIn.keeps HK0.out) HC.out).mono ?_
  rintro e w1 ⟨rfl, hk1⟩
  have HK1 := Lib.hid (HK0.out.trans hk1)
  have HXZ1 := Lib.hid (HXZ.out.keeps hk1)
  have HXA1 := Lib.hid (HXA.out.keeps hk1)
  have hb0 := HXA1.out.cell 0 _ rfl
  have hb1 := HXA1.out.cell 1 _ rfl
  have hsz := HXZ1.out.lt
  clear hk1 HXA HXZ HK0
  go_wp2_with fail
  clear hd1 hd2 hd3
  go_loopw [8, 9] (fun l i wr => ∃ k : Nat, k ≤ min 32 (bs.length - at_) ∧ i = .int .i64 k ∧ Hid (Own wr w1.heap.size 3 l ((onesAt pat at_ k).map (Value.int .i64))) ∧ Hid (Keeps w1 wr)) (fun _ i _ => 32 - (intOf i).toNat)
  case atStart => exact ⟨0, by omega, rfl, Own.nil _ _ _, Keeps.refl _⟩
  case round =>
    obtain ⟨k, hk, rfl, HO, HK⟩ := hrel
    have hws := HK.out.size
    have p0 := HK.out.later hb0
    have p1 := HK.out.later hb1
    have hk32 : k ≤ 32 := by omega
    by_cases hlt : k < min 32 (bs.length - at_)
    · have hd1 : decide ((k : Int) < 32) = true := by simp; omega
      have hd1' : decide (k < 32) = true := by simp; omega
      have hd2 : decide ((at_ : Int) + k < bs.length) = true := by simp; omega
      have hd3 : decide (at_ + k < bs.length) = true := by simp; omega
      · obtain ⟨b, hb⟩ : ∃ b, pat.testBit k = b := ⟨_, rfl⟩
        have htest := rem_test pat k
        rw [hb] at htest
        have HBE := Lib.hid hb
        clear hb
        cases b
        · go_wp2_with fail
          go_roundw
          case rel => exact ⟨k + 1, by omega, by go_num, by rw [onesAt_no _ _ _ HBE.out]; exact HO, HK⟩
          case measure => simp [intOf]; omega
        · skip
          have HOL := Lib.hid (onesAt_len pat at_ k)
          go_wp2_with (refine wpList_push rfl (.tmp 41) (.tmp 45) 63 rfl 3 8 (.int .i64 0) Try.underlying63 info_int rfl w1.heap.size _ _ rfl (by exact HO.out.keeps ((Keeps.refl _).alloc _)) _ _ rfl (by exact World.cell?_alloc_new _ _ _ _) rfl ?h1 ?h2 ?h3 ?hmain)
          case h1 => rw [List.length_map]; have := HOL.out; omega
          case h2 => rw [List.length_map]; have := HOL.out; omega
          case h3 => simp; omega
          case hmain =>
            intro v2 w3 hown hbel
            have HO3 : Hid (Own w3 w1.heap.size 3 v2 ((onesAt pat at_ (k + 1)).map (Value.int .i64))) := by
              rw [onesAt_yes _ _ _ HBE.out, List.map_append]
              rw [show ((at_ + k : Nat) : Int) = (at_ : Int) + k by omega]
              exact hown
            have HK3 : Hid (Keeps w1 w3) := (HK.out.alloc _).below hbel (Nat.le_refl _)
            clear hown hbel HO HK
            go_wp2_with fail
            go_roundw
            case rel => exact ⟨k + 1, by omega, by go_num, HO3, HK3⟩
            case measure => simp [intOf]; omega
    · have hke : k = min 32 (bs.length - at_) := by omega
      have HOE : Hid (onesAt pat at_ k = onesAt pat at_ (min 32 (bs.length - at_))) := by rw [← hke]; exact rfl
      clear hke
      by_cases h32 : k < 32
      · have hd1 : decide ((k : Int) < 32) = true := by simp; omega
        have hd1' : decide (k < 32) = true := by simp; omega
        have hd2 : decide ((at_ : Int) + k < bs.length) = false := by simp; omega
        have hd3 : decide (at_ + k < bs.length) = false := by simp; omega
        go_wp2_with fail

        with_reducible refine (rflip_any ⟨bs.length, a, (bs.length + 7) / 8, cap, pack bs⟩ _ (onesAt pat at_ k) _ (by exact (HX.out.keeps (HK1.out.trans HK.out)).isIn) (by exact HO.out.ints)).mono ?_
        rintro e w3 ⟨y, rfl, hy, hf, hk3⟩
        have hres : flipRes ⟨bs.length, a, (bs.length + 7) / 8, cap, pack bs⟩ (onesAt pat at_ k) = burstIs bs at_ pat := by
          unfold flipRes burstIs; rw [if_pos HC.out, HXB.out, HOE.out]
        rw [hres] at hy ⊢
        have HY := Lib.hid hy
        have HF := Lib.hid hf
        have HZB := Lib.hid (HXZ1.out.keeps (HK.out.trans hk3))
        have HK3 := Lib.hid ((HK1.out.trans HK.out).trans hk3)
        have hz0 := HZB.out.cell 0 _ rfl
        have hz1 := HZB.out.cell 1 _ rfl
        have hzf := HZB.out.frozen
        clear hy hf hk3 HO HK p0 p1 hb0 hb1 hres
        obtain ⟨n', b', len', cap', l'⟩ := y
        go_wp2_with fail
        refine bodyPost_ret (by simp [results, Try.results46, go_sem, RB.val, *]) rfl ⟨⟨n', b', len', cap', l'⟩, rfl, ?_, fun a ha => ?_, ?_⟩
        · exact (RB.Is.put (b := w.heap.size + 1) (RB.Is.put (b := w.heap.size + 1) HY.out HF.out (by omega) _ _) HF.out (by omega) _ _)
        · have := HF.out a ha; have := HK1.out.size; omega
        · exact (HK3.out.setCell (by simp) _).setCell (by simp) _

      · have hd1 : decide ((k : Int) < 32) = false := by simp; omega
        have hd1' : decide (k < 32) = false := by simp; omega
        go_wp2_with fail

        with_reducible refine (rflip_any ⟨bs.length, a, (bs.length + 7) / 8, cap, pack bs⟩ _ (onesAt pat at_ k) _ (by exact (HX.out.keeps (HK1.out.trans HK.out)).isIn) (by exact HO.out.ints)).mono ?_
        rintro e w3 ⟨y, rfl, hy, hf, hk3⟩
        have hres : flipRes ⟨bs.length, a, (bs.length + 7) / 8, cap, pack bs⟩ (onesAt pat at_ k) = burstIs bs at_ pat := by
          unfold flipRes burstIs; rw [if_pos HC.out, HXB.out, HOE.out]
        rw [hres] at hy ⊢
        have HY := Lib.hid hy
        have HF := Lib.hid hf
        have HZB := Lib.hid (HXZ1.out.keeps (HK.out.trans hk3))
        have HK3 := Lib.hid ((HK1.out.trans HK.out).trans hk3)
        have hz0 := HZB.out.cell 0 _ rfl
        have hz1 := HZB.out.cell 1 _ rfl
        have hzf := HZB.out.frozen
        clear hy hf hk3 HO HK p0 p1 hb0 hb1 hres
        obtain ⟨n', b', len', cap', l'⟩ := y
        go_wp2_with fail
        refine bodyPost_ret (by simp [results, Try.results46, go_sem, RB.val, *]) rfl ⟨⟨n', b', len', cap', l'⟩, rfl, ?_, fun a ha => ?_, ?_⟩
        · exact (RB.Is.put (b := w.heap.size + 1) (RB.Is.put (b := w.heap.size + 1) HY.out HF.out (by omega) _ _) HF.out (by omega) _ _)
        · have := HF.out a ha; have := HK1.out.size; omega
        · exact (HK3.out.setCell (by simp) _).setCell (by simp) _

theorem rburst_any (x : RB) (av : Int) (pat : Nat) (w : World) (hx : x.In w) (hpat : pat < 4294967296) :
    Calls Try.prog 46 #[x.val, .int .i64 av, .int .u32 pat] w fun e w' => Res w w' e (burstRes x av pat) := by
  cases hc : chk x.n x.l
  · exact (rburst_no x av pat w hx 10 (.inl ⟨hc, rfl⟩)).mono fun e w' h => Res.no2 (by unfold burstRes; simp [hc]) h
  cases ha : atOk x.n av
  · exact (rburst_no x av pat w hx 2 (.inr ⟨hc, ha, rfl⟩)).mono fun e w' h => Res.no2 (by unfold burstRes; simp [hc, ha]) h
  have hi : x.Is w x.bits := hx.is hc
  have hn := hi.n
  have ha' := ha
  simp only [atOk, Bool.and_eq_true, decide_eq_true_eq] at ha'
  rw [show burstRes x av pat = burstIs x.bits av.toNat pat by unfold burstRes; simp [hc, ha]]
  exact rburst_ok x _ av av.toNat pat w (by omega) hi (by omega) hpat
end Go.Proofs.Ytkbdpdcandpfdaa
