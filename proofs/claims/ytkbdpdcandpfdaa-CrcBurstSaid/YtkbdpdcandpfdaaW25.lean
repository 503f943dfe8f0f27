/- The walks of layer 2, 4: Open on both sides. -/
import Derived.Test.YtkbdpdcandpfdaaW24
namespace Go.Proofs.Ytkbdpdcandpfdaa
open Go.RowKit
set_option linter.unusedVariables false
set_option linter.unusedSimpArgs false

def openIs (bs cs : List Bool) : List Bool × Int :=
  if getTo bs (bs.length - 24) 24 = crcOver (crcOver 0 cs) (part bs 0 (bs.length - 24)) then (part bs 0 (bs.length - 24), 0) else ([], 21)
def openRes (x u : RB) : List Bool × Int :=
  if chk x.n x.l && chk u.n u.l then (if x.bits.length < 24 then ([], 20) else openIs x.bits u.bits) else ([], 10)

set_option maxHeartbeats 1000000 in
set_option maxRecDepth 100000 in
theorem open_no (x u : RB) (w : World) (hx : x.In w) (hu : u.In w) (c : Int) (hc : (chk x.n x.l = false ∧ c = 10) ∨ (chk x.n x.l = true ∧ chk u.n u.l = false ∧ c = 10) ∨ (chk x.n x.l = true ∧ chk u.n u.l = true ∧ x.n < 24 ∧ c = 20)) :
    Calls Try.prog 42 #[x.val, u.val] w fun e w' => e = .returned (.tuple #[RB.zero.val, .int .i64 c]) ∧ Keeps w w' := by
  have HX := Lib.hid hx
  have HU := Lib.hid hu
  clear hx hu
  obtain ⟨n, a, len, cap, l⟩ := x
  obtain ⟨m, b, len2, cap2, l2⟩ := u
  simp only at hc
  show Calls Try.prog 42 #[.agg #[.int .i64 n, .slice a len cap], .agg #[.int .i64 m, .slice b len2 cap2]] w _
  have hk0 := ((((Keeps.refl w).alloc (.cells #[.int .i64 n, .slice a len cap] 32)).alloc (.cells #[.int .i64 m, .slice b len2 cap2] 32)).alloc (.cells #[.int .i64 0, .slice none 0 0] 32))
  have HK0 := Lib.hid hk0
  have hxa := (((Box.new w 32 #[.int .i64 n, .slice a len cap]).next (.cells #[.int .i64 m, .slice b len2 cap2] 32)).next (.cells #[.int .i64 0, .slice none 0 0] 32))
  have hxb := (Box.new (w.alloc (.cells #[.int .i64 n, .slice a len cap] 32)) 32 #[.int .i64 m, .slice b len2 cap2]).next (.cells #[.int .i64 0, .slice none 0 0] 32)
  have hxz := (Box.new ((w.alloc (.cells #[.int .i64 n, .slice a len cap] 32)).alloc (.cells #[.int .i64 m, .slice b len2 cap2] 32)) 32 #[.int .i64 0, .slice none 0 0])
  rw [World.size_alloc, World.size_alloc] at hxz
  rw [World.size_alloc] at hxb
  have HXA := Lib.hid hxa
  have HXB := Lib.hid hxb
  have HXZ := Lib.hid hxz
  clear hxa hxb hxz hk0
  go_enter Try.func42, Try.ntmps42
  go_wp2_with fail
  rcases hc with ⟨hc, rfl⟩ | hc
  · with_reducible refine (check_no ⟨n, a, len, cap, l⟩ _ (by exact HX.out.keeps HK0.out) hc).mono ?_
    rintro e w1 ⟨rfl, hk1⟩
    have HK1 := Lib.hid (HK0.out.trans hk1)
    have hb := HXZ.out.keeps hk1
    have hx0 := hb.cell 0 _ rfl
    have hx1 := hb.cell 1 _ rfl
    have hxf := hb.frozen
    clear hk1 hb HXA HXB HXZ HK0
    go_wp2_with fail
    refine bodyPost_ret (by simp [results, Try.results42, go_sem, RB.zero, *]) rfl ⟨rfl, (HK1.out.setCell (by simp; omega) _).setCell (by simp; omega) _⟩
  rcases hc with ⟨hc, hcu, rfl⟩ | ⟨hc, hcu, hn, rfl⟩
  · with_reducible refine (check_yes ⟨n, a, len, cap, l⟩ _ (by exact HX.out.keeps HK0.out) hc).mono ?_
    rintro e w1 ⟨rfl, hk1⟩
    have HK1 := Lib.hid (HK0.out.trans hk1)
    have HXZ1 := Lib.hid (HXZ.out.keeps hk1)
    have hb := HXB.out.keeps hk1
    have hb0 := hb.cell 0 _ rfl
    have hb1 := hb.cell 1 _ rfl
    clear hk1 hb HXA HXB HXZ HK0
    go_wp2_with fail
    with_reducible refine (check_no ⟨m, b, len2, cap2, l2⟩ _ (by exact HU.out.keeps HK1.out) hcu).mono ?_
    rintro e w2 ⟨rfl, hk2⟩
    have HK2 := Lib.hid (HK1.out.trans hk2)
    have hb := HXZ1.out.keeps hk2
    have hx0 := hb.cell 0 _ rfl
    have hx1 := hb.cell 1 _ rfl
    have hxf := hb.frozen
    clear hk2 hb hb0 hb1 HXZ1 HK1
    go_wp2_with fail
    refine bodyPost_ret (by simp [results, Try.results42, go_sem, RB.zero, *]) rfl ⟨rfl, (HK2.out.setCell (by simp; omega) _).setCell (by simp; omega) _⟩
  · have hd : decide (n < 24) = true := by simpa using hn
    with_reducible refine (check_yes ⟨n, a, len, cap, l⟩ _ (by exact HX.out.keeps HK0.out) hc).mono ?_
    rintro e w1 ⟨rfl, hk1⟩
    have HK1 := Lib.hid (HK0.out.trans hk1)
    have HXZ1 := Lib.hid (HXZ.out.keeps hk1)
    have HXA1 := Lib.hid (HXA.out.keeps hk1)
    have hb := HXB.out.keeps hk1
    have hb0 := hb.cell 0 _ rfl
    have hb1 := hb.cell 1 _ rfl
    clear hk1 hb HXA HXB HXZ HK0
    go_wp2_with fail
    with_reducible refine (check_yes ⟨m, b, len2, cap2, l2⟩ _ (by exact HU.out.keeps HK1.out) hcu).mono ?_
    rintro e w2 ⟨rfl, hk2⟩
    have HK2 := Lib.hid (HK1.out.trans hk2)
    have hb := HXZ1.out.keeps hk2
    have hx0 := hb.cell 0 _ rfl
    have hx1 := hb.cell 1 _ rfl
    have hxf := hb.frozen
    have ha := HXA1.out.keeps hk2
    have ha0 := ha.cell 0 _ rfl
    clear hk2 hb hb0 hb1 HXZ1 HXA1 HK1 ha
    go_wp2_with fail
    refine bodyPost_ret (by simp [results, Try.results42, go_sem, RB.zero, *]) rfl ⟨rfl, (HK2.out.setCell (by simp; omega) _).setCell (by simp; omega) _⟩

set_option maxHeartbeats 2000000 in
set_option maxRecDepth 100000 in
theorem open_ok (x u : RB) (bs cs : List Bool) (w : World) (hx : x.Is w bs) (hu : u.Is w cs) (h24 : 24 ≤ bs.length) :
    Calls Try.prog 42 #[x.val, u.val] w fun e w' => Res w w' e (openIs bs cs) := by
  have HC := Lib.hid hx.chk
  have HCU := Lib.hid hu.chk
  have HUB := Lib.hid hu.bits
  have HX := Lib.hid hx
  have HU := Lib.hid hu
  have hmost := hx.most
  obtain ⟨a, cap, rfl⟩ := hx.shape
  obtain ⟨m, b, len2, cap2, l2⟩ := u
  clear hx hu
  show Calls Try.prog 42 #[.agg #[.int .i64 bs.length, .slice a ((bs.length + 7) / 8) cap], .agg #[.int .i64 m, .slice b len2 cap2]] w _
  have hk0 := ((((Keeps.refl w).alloc (.cells #[.int .i64 bs.length, .slice a ((bs.length + 7) / 8) cap] 32)).alloc (.cells #[.int .i64 m, .slice b len2 cap2] 32)).alloc (.cells #[.int .i64 0, .slice none 0 0] 32))
  have HK0 := Lib.hid hk0
  have hxa := (((Box.new w 32 #[.int .i64 bs.length, .slice a ((bs.length + 7) / 8) cap]).next (.cells #[.int .i64 m, .slice b len2 cap2] 32)).next (.cells #[.int .i64 0, .slice none 0 0] 32))
  have hxb := (Box.new (w.alloc (.cells #[.int .i64 bs.length, .slice a ((bs.length + 7) / 8) cap] 32)) 32 #[.int .i64 m, .slice b len2 cap2]).next (.cells #[.int .i64 0, .slice none 0 0] 32)
  have hxz := (Box.new ((w.alloc (.cells #[.int .i64 bs.length, .slice a ((bs.length + 7) / 8) cap] 32)).alloc (.cells #[.int .i64 m, .slice b len2 cap2] 32)) 32 #[.int .i64 0, .slice none 0 0])
  rw [World.size_alloc, World.size_alloc] at hxz
  rw [World.size_alloc] at hxb
  have HXA := Lib.hid hxa
  have HXB := Lib.hid hxb
  have HXZ := Lib.hid hxz
  clear hxa hxb hxz hk0
  have hd1 : decide ((bs.length : Int) < 24) = false := by simp; omega
  have hd2 : decide (bs.length < 24) = false := by simp; omega
  go_enter Try.func42, Try.ntmps42
  go_wp2_with fail
  with_reducible refine (check_yes ⟨bs.length, a, (bs.length + 7) / 8, cap, pack bs⟩ _ (by exact HX.out.isIn.keeps HK0.out) HC.out).mono ?_
  rintro e w1 ⟨rfl, hk1⟩
  have HK1 := Lib.hid (HK0.out.trans hk1)
  have HXZ1 := Lib.hid (HXZ.out.keeps hk1)
  have HXA1 := Lib.hid (HXA.out.keeps hk1)
  have HXB1 := Lib.hid (HXB.out.keeps hk1)
  have hb0 := HXB1.out.cell 0 _ rfl
  have hb1 := HXB1.out.cell 1 _ rfl
  clear hk1 HXA HXB HXZ HK0
  go_wp2_with fail
  with_reducible refine (check_yes ⟨m, b, len2, cap2, l2⟩ _ (by exact HU.out.isIn.keeps HK1.out) HCU.out).mono ?_
  rintro e w2 ⟨rfl, hk2⟩
  have HK2 := Lib.hid (HK1.out.trans hk2)
  have HXZ2 := Lib.hid (HXZ1.out.keeps hk2)
  have HXA2 := Lib.hid (HXA1.out.keeps hk2)
  have HXB2 := Lib.hid (HXB1.out.keeps hk2)
  clear hk2 hb0 hb1 HXZ1 HXA1 HXB1 HK1
  have ha0 := HXA2.out.cell 0 _ rfl
  have ha1 := HXA2.out.cell 1 _ rfl
  have hb0 := HXB2.out.cell 0 _ rfl
  have hb1 := HXB2.out.cell 1 _ rfl
  obtain ⟨p, hp⟩ : ∃ p, p = bs.length - 24 := ⟨_, rfl⟩
  have hpi : (bs.length : Int) - 24 = p := by omega
  have hp3 : p + 24 = bs.length := by omega
  have HP := Lib.hid hp
  clear hp
  go_wp2_with fail
  with_reducible refine (slice_ok ⟨bs.length, a, (bs.length + 7) / 8, cap, pack bs⟩ bs _ _ 0 p _ (by omega) (by omega) (by exact HX.out.keeps HK2.out) (Nat.zero_le _) (by omega)).mono ?_
  rintro e w3 ⟨y, rfl, hy, hf, hk3⟩
  obtain ⟨c, ycap, rfl⟩ := hy.shape
  have hyl : (part bs 0 p).length = p := by rw [part_len _ _ _ (by omega)]; rfl
  rw [hyl] at hy hf ⊢
  obtain ⟨fs, hfs⟩ : ∃ fs, fs = part bs 0 p := ⟨_, rfl⟩
  have HPI : Hid (openIs bs cs = if getTo bs p 24 = crcOver (crcOver 0 cs) fs then (fs, 0) else ([], 21)) := by
    unfold openIs; rw [← HP.out, ← hfs]; exact rfl
  rw [← hfs] at hy hf hyl ⊢
  have HY := Lib.hid hy
  have HF := Lib.hid hf
  have hs23 := HXZ2.out.lt
  have HK3 := Lib.hid (HK2.out.trans hk3)
  have HXZ3 := Lib.hid (HXZ2.out.keeps hk3)
  have HXA3 := Lib.hid (HXA2.out.keeps hk3)
  have HXB3 := Lib.hid (HXB2.out.keeps hk3)
  have HFS := Lib.hid hfs
  clear hfs hy hf hk3 HK2 HXZ2 HXA2 HXB2 ha0 ha1 hb0 hb1
  have ha0 := HXA3.out.cell 0 _ rfl
  have ha1 := HXA3.out.cell 1 _ rfl
  have hb0 := HXB3.out.cell 0 _ rfl
  have hb1 := HXB3.out.cell 1 _ rfl
  have hs33 := HXZ3.out.lt
  have hs3b := HXB3.out.lt
  have hs3c := HXA3.out.lt
  have hg64 := getTo_lt63 bs p 24 (by omega)
  have hsl := crcOver_lt fs (crcOver 0 cs) (crcOver_lt _ _ (by decide))
  obtain ⟨gv, hgv⟩ : ∃ gv : Nat, gv = getTo bs p 24 := ⟨_, rfl⟩
  have hgl : gv < 16777216 := by rw [hgv]; exact getTo_lt bs p 24
  obtain ⟨sv, hsv⟩ : ∃ sv : Nat, sv = crcOver (crcOver 0 cs) fs := ⟨_, rfl⟩
  rw [← hgv] at hg64
  rw [← hsv] at hsl
  rw [← hgv, ← hsv] at HPI
  have HGV := Lib.hid hgv
  have HSV := Lib.hid hsv
  clear hgv hsv
  go_wp2_with fail
  have hxc := Box.new w3 32 #[.int .i64 p, .slice c ((p + 7) / 8) ycap]
  have HKA := Lib.hid (HK3.out.alloc (.cells #[.int .i64 p, .slice c ((p + 7) / 8) ycap] 32))
  with_reducible refine (get_ok ⟨bs.length, a, (bs.length + 7) / 8, cap, pack bs⟩ bs p 24 _ _ _ (by omega) (by omega) (by exact HX.out.keeps HKA.out) (by omega) (by omega)).mono ?_
  rw [← HGV.out]
  rintro e w4 ⟨rfl, hkg⟩
  have hk34 := ((Keeps.refl w3).alloc (.cells #[.int .i64 p, .slice c ((p + 7) / 8) ycap] 32)).trans hkg
  have HXC4 := Lib.hid (hxc.keeps hkg)
  have HK4 := Lib.hid (HK3.out.trans hk34)
  have HXZ4 := Lib.hid (HXZ3.out.keeps hk34)
  have HXB4 := Lib.hid (HXB3.out.keeps hk34)
  have HY4 := Lib.hid (HY.out.keeps hk34)
  have hs44 := hk34.size
  clear hxc hkg hk34 HKA HK3 HXZ3 HXA3 HXB3 HY ha0 ha1 hb0 hb1
  have hb0 := HXB4.out.cell 0 _ rfl
  have hb1 := HXB4.out.cell 1 _ rfl
  have hc0 := HXC4.out.cell 0 _ rfl
  have hc1 := HXC4.out.cell 1 _ rfl
  go_wp2_with fail
  with_reducible refine (sum_any _ 2 2 [⟨m, b, len2, cap2, l2⟩, ⟨p, c, (p + 7) / 8, ycap, pack fs⟩] _ (by exact RBs.two (Box.new _ _ _) (HU.out.isIn.keeps (HK4.out.alloc _)) (HY4.out.isIn.keeps ((Keeps.refl w4).alloc _)))).mono ?_
  rw [sumRes_two_yes _ _ HCU.out HY4.out.chk, HUB.out, HY4.out.bits, ← HSV.out]
  rintro e w5 ⟨rfl, hks⟩
  have hk45 := ((Keeps.refl w4).alloc (.cells #[.int .i64 m, .slice b len2 cap2, .int .i64 p, .slice c ((p + 7) / 8) ycap] 32)).trans hks
  have HK5 := Lib.hid (HK4.out.trans hk45)
  have HXZ5 := Lib.hid (HXZ4.out.keeps hk45)
  have HXC5 := Lib.hid (HXC4.out.keeps hk45)
  have HY5 := Lib.hid (HY4.out.keeps hk45)
  have hs55 := hk45.size
  clear hks hk45 HK4 HXZ4 HXB4 HY4 HXC4 hb0 hb1 hc0 hc1
  by_cases hgs : gv = sv
  · subst hgs
    have hz0 := HXZ5.out.cell 0 _ rfl
    have hz1 := HXZ5.out.cell 1 _ rfl
    have hzf := HXZ5.out.frozen
    have hc0 := HXC5.out.cell 0 _ rfl
    have hc1 := HXC5.out.cell 1 _ rfl
    have hpos : openIs bs cs = (fs, 0) := by rw [HPI.out, if_pos rfl]
    have HPOS := Lib.hid hpos
    clear hpos
    go_wp2_with fail
    refine bodyPost_ret (by simp [results, Try.results42, go_sem, RB.val, *]) rfl (Res.eq HPOS.out ⟨⟨p, c, (p + 7) / 8, ycap, pack fs⟩, rfl, ?_, fun a ha => ?_, ?_⟩)
    · exact (RB.Is.put (b := w.heap.size + 1 + 1) (RB.Is.put (b := w.heap.size + 1 + 1) HY5.out HF.out hs23 _ _) HF.out hs23 _ _)
    · have := HF.out a ha; omega
    · exact (HK5.out.setCell (by simp; omega) _).setCell (by simp; omega) _
  · have hne : ¬ ((gv : Int) = sv) := by omega
    have hne1 : ((gv : Int) != sv) = true := by rw [bne_iff_ne]; exact hne
    have hne2 : ((sv : Int) != gv) = true := by rw [bne_iff_ne]; omega
    have hz0 := HXZ5.out.cell 0 _ rfl
    have hz1 := HXZ5.out.cell 1 _ rfl
    have hzf := HXZ5.out.frozen
    have hneg : openIs bs cs = ([], 21) := by rw [HPI.out, if_neg hgs]
    have HNEG := Lib.hid hneg
    clear hneg
    go_wp2_with fail
    refine bodyPost_ret (by simp [results, Try.results42, go_sem, RB.zero, *]) rfl (Res.no2 (c := 21) HNEG.out ⟨rfl, (HK5.out.setCell (by simp; omega) _).setCell (by simp; omega) _⟩)

theorem open_any (x u : RB) (w : World) (hx : x.In w) (hu : u.In w) :
    Calls Try.prog 42 #[x.val, u.val] w fun e w' => Res w w' e (openRes x u) := by
  cases hc : chk x.n x.l
  · exact (open_no x u w hx hu 10 (.inl ⟨hc, rfl⟩)).mono fun e w' h => Res.no2 (by unfold openRes; simp [hc]) h
  cases hcu : chk u.n u.l
  · exact (open_no x u w hx hu 10 (.inr (.inl ⟨hc, hcu, rfl⟩))).mono fun e w' h => Res.no2 (by unfold openRes; simp [hc, hcu]) h
  have hi : x.Is w x.bits := hx.is hc
  have hiu : u.Is w u.bits := hu.is hcu
  have hn := hi.n
  by_cases h24 : x.bits.length < 24
  · exact (open_no x u w hx hu 20 (.inr (.inr ⟨hc, hcu, by omega, rfl⟩))).mono fun e w' h => Res.no2 (by unfold openRes; simp [hc, hcu, h24]) h
  · rw [show openRes x u = openIs x.bits u.bits by unfold openRes; simp [hc, hcu, h24]]
    exact open_ok x u _ _ w hi hiu (by omega)

set_option maxHeartbeats 1000000 in
set_option maxRecDepth 100000 in
theorem ropen_no (x u : RB) (w : World) (hx : x.In w) (hu : u.In w) (c : Int) (hc : (chk x.n x.l = false ∧ c = 10) ∨ (chk x.n x.l = true ∧ chk u.n u.l = false ∧ c = 10) ∨ (chk x.n x.l = true ∧ chk u.n u.l = true ∧ x.n < 24 ∧ c = 20)) :
    Calls Try.prog 44 #[x.val, u.val] w fun e w' => e = .returned (.tuple #[RB.zero.val, .int .i64 c]) ∧ Keeps w w' := by
  have HX := Lib.hid hx
  have HU := Lib.hid hu
  clear hx hu
  obtain ⟨n, a, len, cap, l⟩ := x
  obtain ⟨m, b, len2, cap2, l2⟩ := u
  simp only at hc
  show Calls Try.prog 44 #[.agg #[.int .i64 n, .slice a len cap], .agg #[.int .i64 m, .slice b len2 cap2]] w _
  have hk0 := ((((Keeps.refl w).alloc (.cells #[.int .i64 n, .slice a len cap] 32)).alloc (.cells #[.int .i64 m, .slice b len2 cap2] 32)).alloc (.cells #[.int .i64 0, .slice none 0 0] 32))
  have HK0 := Lib.hid hk0
  have hxa := (((Box.new w 32 #[.int .i64 n, .slice a len cap]).next (.cells #[.int .i64 m, .slice b len2 cap2] 32)).next (.cells #[.int .i64 0, .slice none 0 0] 32))
  have hxb := (Box.new (w.alloc (.cells #[.int .i64 n, .slice a len cap] 32)) 32 #[.int .i64 m, .slice b len2 cap2]).next (.cells #[.int .i64 0, .slice none 0 0] 32)
  have hxz := (Box.new ((w.alloc (.cells #[.int .i64 n, .slice a len cap] 32)).alloc (.cells #[.int .i64 m, .slice b len2 cap2] 32)) 32 #[.int .i64 0, .slice none 0 0])
  rw [World.size_alloc, World.size_alloc] at hxz
  rw [World.size_alloc] at hxb
  have HXA := Lib.hid hxa
  have HXB := Lib.hid hxb
  have HXZ := Lib.hid hxz
  clear hxa hxb hxz hk0
  go_enter Try.func44, Try.ntmps44
  go_wp2_with fail
  rcases hc with ⟨hc, rfl⟩ | hc
  · with_reducible refine (rcheck_no ⟨n, a, len, cap, l⟩ _ (by exact HX.out.keeps HK0.out) hc).mono ?_
    rintro e w1 ⟨rfl, hk1⟩
    have HK1 := Lib.hid (HK0.out.trans hk1)
    have hb := HXZ.out.keeps hk1
    have hx0 := hb.cell 0 _ rfl
    have hx1 := hb.cell 1 _ rfl
    have hxf := hb.frozen
    clear hk1 hb HXA HXB HXZ HK0
    go_wp2_with fail
    refine bodyPost_ret (by simp [results, Try.results44, go_sem, RB.zero, *]) rfl ⟨rfl, (HK1.out.setCell (by simp; omega) _).setCell (by simp; omega) _⟩
  rcases hc with ⟨hc, hcu, rfl⟩ | ⟨hc, hcu, hn, rfl⟩
  · with_reducible refine (rcheck_yes ⟨n, a, len, cap, l⟩ _ (by exact HX.out.keeps HK0.out) hc).mono ?_
    rintro e w1 ⟨rfl, hk1⟩
    have HK1 := Lib.hid (HK0.out.trans hk1)
    have HXZ1 := Lib.hid (HXZ.out.keeps hk1)
    have hb := HXB.out.keeps hk1
    have hb0 := hb.cell 0 _ rfl
    have hb1 := hb.cell 1 _ rfl
    clear hk1 hb HXA HXB HXZ HK0
    go_wp2_with fail
    with_reducible refine (rcheck_no ⟨m, b, len2, cap2, l2⟩ _ (by exact HU.out.keeps HK1.out) hcu).mono ?_
    rintro e w2 ⟨rfl, hk2⟩
    have HK2 := Lib.hid (HK1.out.trans hk2)
    have hb := HXZ1.out.keeps hk2
    have hx0 := hb.cell 0 _ rfl
    have hx1 := hb.cell 1 _ rfl
    have hxf := hb.frozen
    clear hk2 hb hb0 hb1 HXZ1 HK1
    go_wp2_with fail
    refine bodyPost_ret (by simp [results, Try.results44, go_sem, RB.zero, *]) rfl ⟨rfl, (HK2.out.setCell (by simp; omega) _).setCell (by simp; omega) _⟩
  · have hd : decide (n < 24) = true := by simpa using hn
    with_reducible refine (rcheck_yes ⟨n, a, len, cap, l⟩ _ (by exact HX.out.keeps HK0.out) hc).mono ?_
    rintro e w1 ⟨rfl, hk1⟩
    have HK1 := Lib.hid (HK0.out.trans hk1)
    have HXZ1 := Lib.hid (HXZ.out.keeps hk1)
    have HXA1 := Lib.hid (HXA.out.keeps hk1)
    have hb := HXB.out.keeps hk1
    have hb0 := hb.cell 0 _ rfl
    have hb1 := hb.cell 1 _ rfl
    clear hk1 hb HXA HXB HXZ HK0
    go_wp2_with fail
    with_reducible refine (rcheck_yes ⟨m, b, len2, cap2, l2⟩ _ (by exact HU.out.keeps HK1.out) hcu).mono ?_
    rintro e w2 ⟨rfl, hk2⟩
    have HK2 := Lib.hid (HK1.out.trans hk2)
    have hb := HXZ1.out.keeps hk2
    have hx0 := hb.cell 0 _ rfl
    have hx1 := hb.cell 1 _ rfl
    have hxf := hb.frozen
    have ha := HXA1.out.keeps hk2
    have ha0 := ha.cell 0 _ rfl
    clear hk2 hb hb0 hb1 HXZ1 HXA1 HK1 ha
    go_wp2_with fail
    refine bodyPost_ret (by simp [results, Try.results44, go_sem, RB.zero, *]) rfl ⟨rfl, (HK2.out.setCell (by simp; omega) _).setCell (by simp; omega) _⟩

set_option maxHeartbeats 2000000 in
set_option maxRecDepth 100000 in
theorem ropen_ok (x u : RB) (bs cs : List Bool) (w : World) (hx : x.Is w bs) (hu : u.Is w cs) (h24 : 24 ≤ bs.length) :
    Calls Try.prog 44 #[x.val, u.val] w fun e w' => Res w w' e (openIs bs cs) := by
  have HC := Lib.hid hx.chk
  have HCU := Lib.hid hu.chk
  have HUB := Lib.hid hu.bits
  have HX := Lib.hid hx
  have HU := Lib.hid hu
  have hmost := hx.most
  obtain ⟨a, cap, rfl⟩ := hx.shape
  obtain ⟨m, b, len2, cap2, l2⟩ := u
  clear hx hu
  show Calls Try.prog 44 #[.agg #[.int .i64 bs.length, .slice a ((bs.length + 7) / 8) cap], .agg #[.int .i64 m, .slice b len2 cap2]] w _
  have hk0 := ((((Keeps.refl w).alloc (.cells #[.int .i64 bs.length, .slice a ((bs.length + 7) / 8) cap] 32)).alloc (.cells #[.int .i64 m, .slice b len2 cap2] 32)).alloc (.cells #[.int .i64 0, .slice none 0 0] 32))
  have HK0 := Lib.hid hk0
  have hxa := (((Box.new w 32 #[.int .i64 bs.length, .slice a ((bs.length + 7) / 8) cap]).next (.cells #[.int .i64 m, .slice b len2 cap2] 32)).next (.cells #[.int .i64 0, .slice none 0 0] 32))
  have hxb := (Box.new (w.alloc (.cells #[.int .i64 bs.length, .slice a ((bs.length + 7) / 8) cap] 32)) 32 #[.int .i64 m, .slice b len2 cap2]).next (.cells #[.int .i64 0, .slice none 0 0] 32)
  have hxz := (Box.new ((w.alloc (.cells #[.int .i64 bs.length, .slice a ((bs.length + 7) / 8) cap] 32)).alloc (.cells #[.int .i64 m, .slice b len2 cap2] 32)) 32 #[.int .i64 0, .slice none 0 0])
  rw [World.size_alloc, World.size_alloc] at hxz
  rw [World.size_alloc] at hxb
  have HXA := Lib.hid hxa
  have HXB := Lib.hid hxb
  have HXZ := Lib.hid hxz
  clear hxa hxb hxz hk0
  have hd1 : decide ((bs.length : Int) < 24) = false := by simp; omega
  have hd2 : decide (bs.length < 24) = false := by simp; omega
  go_enter Try.func44, Try.ntmps44
  go_wp2_with fail
  with_reducible refine (rcheck_yes ⟨bs.length, a, (bs.length + 7) / 8, cap, pack bs⟩ _ (by exact HX.out.isIn.keeps HK0.out) HC.out).mono ?_
  rintro e w1 ⟨rfl, hk1⟩
  have HK1 := Lib.hid (HK0.out.trans hk1)
  have HXZ1 := Lib.hid (HXZ.out.keeps hk1)
  have HXA1 := Lib.hid (HXA.out.keeps hk1)
  have HXB1 := Lib.hid (HXB.out.keeps hk1)
  have hb0 := HXB1.out.cell 0 _ rfl
  have hb1 := HXB1.out.cell 1 _ rfl
  clear hk1 HXA HXB HXZ HK0
  go_wp2_with fail
  with_reducible refine (rcheck_yes ⟨m, b, len2, cap2, l2⟩ _ (by exact HU.out.isIn.keeps HK1.out) HCU.out).mono ?_
  rintro e w2 ⟨rfl, hk2⟩
  have HK2 := Lib.hid (HK1.out.trans hk2)
  have HXZ2 := Lib.hid (HXZ1.out.keeps hk2)
  have HXA2 := Lib.hid (HXA1.out.keeps hk2)
  have HXB2 := Lib.hid (HXB1.out.keeps hk2)
  clear hk2 hb0 hb1 HXZ1 HXA1 HXB1 HK1
  have ha0 := HXA2.out.cell 0 _ rfl
  have ha1 := HXA2.out.cell 1 _ rfl
  have hb0 := HXB2.out.cell 0 _ rfl
  have hb1 := HXB2.out.cell 1 _ rfl
  obtain ⟨p, hp⟩ : ∃ p, p = bs.length - 24 := ⟨_, rfl⟩
  have hpi : (bs.length : Int) - 24 = p := by omega
  have hp3 : p + 24 = bs.length := by omega
  have HP := Lib.hid hp
  clear hp
  go_wp2_with fail
  with_reducible refine (rslice_ok ⟨bs.length, a, (bs.length + 7) / 8, cap, pack bs⟩ bs _ _ 0 p _ (by omega) (by omega) (by exact HX.out.keeps HK2.out) (Nat.zero_le _) (by omega)).mono ?_
  rintro e w3 ⟨y, rfl, hy, hf, hk3⟩
  obtain ⟨c, ycap, rfl⟩ := hy.shape
  have hyl : (part bs 0 p).length = p := by rw [part_len _ _ _ (by omega)]; rfl
  rw [hyl] at hy hf ⊢
  obtain ⟨fs, hfs⟩ : ∃ fs, fs = part bs 0 p := ⟨_, rfl⟩
  have HPI : Hid (openIs bs cs = if getTo bs p 24 = crcOver (crcOver 0 cs) fs then (fs, 0) else ([], 21)) := by
    unfold openIs; rw [← HP.out, ← hfs]; exact rfl
  rw [← hfs] at hy hf hyl ⊢
  have HY := Lib.hid hy
  have HF := Lib.hid hf
  have hs23 := HXZ2.out.lt
  have HK3 := Lib.hid (HK2.out.trans hk3)
  have HXZ3 := Lib.hid (HXZ2.out.keeps hk3)
  have HXA3 := Lib.hid (HXA2.out.keeps hk3)
  have HXB3 := Lib.hid (HXB2.out.keeps hk3)
  have HFS := Lib.hid hfs
  clear hfs hy hf hk3 HK2 HXZ2 HXA2 HXB2 ha0 ha1 hb0 hb1
  have ha0 := HXA3.out.cell 0 _ rfl
  have ha1 := HXA3.out.cell 1 _ rfl
  have hb0 := HXB3.out.cell 0 _ rfl
  have hb1 := HXB3.out.cell 1 _ rfl
  have hs33 := HXZ3.out.lt
  have hs3b := HXB3.out.lt
  have hs3c := HXA3.out.lt
  have hg64 := getTo_lt63 bs p 24 (by omega)
  have hsl := crcOver_lt fs (crcOver 0 cs) (crcOver_lt _ _ (by decide))
  obtain ⟨gv, hgv⟩ : ∃ gv : Nat, gv = getTo bs p 24 := ⟨_, rfl⟩
  have hgl : gv < 16777216 := by rw [hgv]; exact getTo_lt bs p 24
  obtain ⟨sv, hsv⟩ : ∃ sv : Nat, sv = crcOver (crcOver 0 cs) fs := ⟨_, rfl⟩
  rw [← hgv] at hg64
  rw [← hsv] at hsl
  rw [← hgv, ← hsv] at HPI
  have HGV := Lib.hid hgv
  have HSV := Lib.hid hsv
  clear hgv hsv
  go_wp2_with fail
  have HKA := Lib.hid (HK3.out.alloc (.cells #[.int .i64 p, .slice c ((p + 7) / 8) ycap] 32))
  have hxc := Box.new w3 32 #[.int .i64 p, .slice c ((p + 7) / 8) ycap]
  have hk3a := (Keeps.refl w3).alloc (.cells #[.int .i64 p, .slice c ((p + 7) / 8) ycap] 32)
  obtain ⟨w3a, hw3a⟩ : ∃ w3a, w3a = w3.alloc (.cells #[.int .i64 p, .slice c ((p + 7) / 8) ycap] 32) := ⟨_, rfl⟩
  have hs3a : w3.heap.size + 1 = w3a.heap.size := by rw [hw3a]; simp
  rw [← hw3a] at HKA hxc hk3a ⊢
  rw [hs3a]
  clear hw3a
  with_reducible refine (rsum_any _ 2 2 [⟨m, b, len2, cap2, l2⟩, ⟨p, c, (p + 7) / 8, ycap, pack fs⟩] _ (by exact RBs.two (Box.new _ _ _) (HU.out.isIn.keeps (HKA.out.alloc _)) (HY.out.isIn.keeps (hk3a.alloc _)))).mono ?_
  rw [sumRes_two_yes _ _ HCU.out HY.out.chk, HUB.out, HY.out.bits, ← HSV.out]
  rintro e w4 ⟨rfl, hks⟩
  have hkx := ((Keeps.refl w3a).alloc (.cells #[.int .i64 m, .slice b len2 cap2, .int .i64 p, .slice c ((p + 7) / 8) ycap] 32)).trans hks
  have hk34 := hk3a.trans hkx
  have HXC4 := Lib.hid (hxc.keeps hkx)
  have HK4 := Lib.hid (HK3.out.trans hk34)
  have HXZ4 := Lib.hid (HXZ3.out.keeps hk34)
  have HXA4 := Lib.hid (HXA3.out.keeps hk34)
  have HY4 := Lib.hid (HY.out.keeps hk34)
  have hs44 := hk34.size
  clear hxc hks hkx hk3a hs3a hk34 HKA HK3 HXZ3 HXA3 HXB3 HY ha0 ha1 hb0 hb1
  have ha0 := HXA4.out.cell 0 _ rfl
  have ha1 := HXA4.out.cell 1 _ rfl
  go_wp2_with fail
  with_reducible refine (rget_ok ⟨bs.length, a, (bs.length + 7) / 8, cap, pack bs⟩ bs p 24 _ _ _ (by omega) (by omega) (by exact HX.out.keeps HK4.out) (by omega) (by omega)).mono ?_
  rw [← HGV.out]
  rintro e w5 ⟨rfl, hkg⟩
  have HK5 := Lib.hid (HK4.out.trans hkg)
  have HXZ5 := Lib.hid (HXZ4.out.keeps hkg)
  have HXC5 := Lib.hid (HXC4.out.keeps hkg)
  have HY5 := Lib.hid (HY4.out.keeps hkg)
  have hs55 := hkg.size
  clear hkg HK4 HXZ4 HXA4 HY4 HXC4 ha0 ha1
  by_cases hgs : gv = sv
  · subst hgs
    have hz0 := HXZ5.out.cell 0 _ rfl
    have hz1 := HXZ5.out.cell 1 _ rfl
    have hzf := HXZ5.out.frozen
    have hc0 := HXC5.out.cell 0 _ rfl
    have hc1 := HXC5.out.cell 1 _ rfl
    have hpos : openIs bs cs = (fs, 0) := by rw [HPI.out, if_pos rfl]
    have HPOS := Lib.hid hpos
    clear hpos
    go_wp2_with fail
    refine bodyPost_ret (by simp [results, Try.results44, go_sem, RB.val, *]) rfl (Res.eq HPOS.out ⟨⟨p, c, (p + 7) / 8, ycap, pack fs⟩, rfl, ?_, fun a ha => ?_, ?_⟩)
    · exact (RB.Is.put (b := w.heap.size + 1 + 1) (RB.Is.put (b := w.heap.size + 1 + 1) HY5.out HF.out hs23 _ _) HF.out hs23 _ _)
    · have := HF.out a ha; omega
    · exact (HK5.out.setCell (by simp; omega) _).setCell (by simp; omega) _
  · have hne : ¬ ((gv : Int) = sv) := by omega
    have hne1 : ((gv : Int) != sv) = true := by rw [bne_iff_ne]; exact hne
    have hne2 : ((sv : Int) != gv) = true := by rw [bne_iff_ne]; omega
    have hz0 := HXZ5.out.cell 0 _ rfl
    have hz1 := HXZ5.out.cell 1 _ rfl
    have hzf := HXZ5.out.frozen
    have hneg : openIs bs cs = ([], 21) := by rw [HPI.out, if_neg hgs]
    have HNEG := Lib.hid hneg
    clear hneg
    go_wp2_with fail
    refine bodyPost_ret (by simp [results, Try.results44, go_sem, RB.zero, *]) rfl (Res.no2 (c := 21) HNEG.out ⟨rfl, (HK5.out.setCell (by simp; omega) _).setCell (by simp; omega) _⟩)

theorem ropen_any (x u : RB) (w : World) (hx : x.In w) (hu : u.In w) :
    Calls Try.prog 44 #[x.val, u.val] w fun e w' => Res w w' e (openRes x u) := by
  cases hc : chk x.n x.l
  · exact (ropen_no x u w hx hu 10 (.inl ⟨hc, rfl⟩)).mono fun e w' h => Res.no2 (by unfold openRes; simp [hc]) h
  cases hcu : chk u.n u.l
  · exact (ropen_no x u w hx hu 10 (.inr (.inl ⟨hc, hcu, rfl⟩))).mono fun e w' h => Res.no2 (by unfold openRes; simp [hc, hcu]) h
  have hi : x.Is w x.bits := hx.is hc
  have hiu : u.Is w u.bits := hu.is hcu
  have hn := hi.n
  by_cases h24 : x.bits.length < 24
  · exact (ropen_no x u w hx hu 20 (.inr (.inr ⟨hc, hcu, by omega, rfl⟩))).mono fun e w' h => Res.no2 (by unfold openRes; simp [hc, hcu, h24]) h
  · rw [show openRes x u = openIs x.bits u.bits by unfold openRes; simp [hc, hcu, h24]]
    exact ropen_ok x u _ _ w hi hiu (by omega)
end Go.Proofs.Ytkbdpdcandpfdaa
