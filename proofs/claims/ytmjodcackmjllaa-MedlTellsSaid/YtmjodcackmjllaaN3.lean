/- The walks of layer 7, 9: Kind, Air. -/
import Derived.Test.YtmjodcackmjllaaN1
namespace Go.Proofs.Ytmjodcackmjllaa
open Go.RowKit Go.Shelf
set_option linter.unusedVariables false
set_option linter.unusedSimpArgs false

/-- the slot of a mode -/
def slotK (m : RMedl) (k n : Int) : Int := match m.xs[k.toNat]? with
  | some x => kindI (x.es.getD n.toNat false) (x.ds.getD n.toNat 0)
  | none => 0
def slotD (m : RMedl) (k n : Int) : Int := match m.xs[k.toNat]? with
  | some x => x.ds.getD n.toNat 0
  | none => 0
def modeIn (m : RMedl) (k : Int) : Bool := decide (0 ≤ k) && decide (k < m.xs.length)
def kindRes (m : RMedl) (k n : Int) : Int × Int := cond (medlOk m && nodeOk m n) (cond (modeIn m k) (slotK m k n, 0) (0, 2)) (0, nodeErr m n)
def airRes (m : RMedl) (k n : Int) : Int × Int := cond (medlOk m && nodeOk m n) (cond (modeIn m k) (airI (sizeI (slotK m k n) (slotD m k n)), 0) (0, 2)) (0, nodeErr m n)
theorem nodeOk_iff (m : RMedl) (n : Int) : nodeOk m n = true ↔ 0 ≤ n ∧ n < m.nodes := by simp only [nodeOk, Bool.and_eq_true, decide_eq_true_eq]
theorem modeIn_iff (m : RMedl) (k : Int) : modeIn m k = true ↔ 0 ≤ k ∧ k < m.xs.length := by simp only [modeIn, Bool.and_eq_true, decide_eq_true_eq]
theorem medlOk_mode {m : RMedl} (h : medlOk m = true) (x : RM) (hx : x ∈ m.xs) : (x.ds.length : Int) = m.nodes ∧ (x.es.length : Int) = m.nodes ∧ x.ns.length = m.xs.length ∧ ∀ k, k < x.ds.length → dataOk (x.ds.getD k 0) = true ∧ (m.cs.getD k false = true → x.es.getD k false = true) := by
  obtain ⟨-, h2, -⟩ := (medlOk_iff m).1 h
  unfold modesOk at h2
  rw [List.all_eq_true] at h2
  have h3 := h2 x hx
  unfold modeOk at h3
  simp only [Bool.and_eq_true, decide_eq_true_eq] at h3
  exact ⟨h3.1.1, h3.1.2.1, h3.1.2.2, h3.2⟩
theorem airTo_mono (nodes : Int) (ds : List Int) (es : List Bool) (m : Int) (h : m ≤ 4000) (k j : Nat) (hj : k ≤ j) : airTo nodes ds es m k ≤ airTo nodes ds es m j := by
  induction j with
  | zero => have : k = 0 := by omega
            subst this; exact Int.le_refl _
  | succ j ih =>
    by_cases e : k = j + 1
    · subst e; exact Int.le_refl _
    · have h1 := ih (by omega)
      have h2 := airStep_le nodes es j (ds.getD j 0) _ (airTo_le nodes ds es m h j).2
      simp only [airTo]
      omega
theorem mairTo_mono (nodes : Int) (xs : List RM) (k j : Nat) (hj : k ≤ j) (hjl : j ≤ xs.length) : mairTo nodes xs k ≤ mairTo nodes xs j := by
  induction j with
  | zero => have : k = 0 := by omega
            subst this; exact Int.le_refl _
  | succ j ih =>
    by_cases e : k = j + 1
    · subst e; exact Int.le_refl _
    · have h1 := ih (by omega) (by omega)
      rw [mairTo_succ nodes xs j (by omega)]
      have h2 := airTo_le nodes xs[j].ds xs[j].es _ (mairTo_le nodes xs j).2 xs[j].ds.length
      omega
theorem air_le_mair {m : RMedl} (h : medlOk m = true) (k n : Int) (hk : modeIn m k = true) (hn : nodeOk m n = true) : airI (sizeI (slotK m k n) (slotD m k n)) ≤ m.mair := by
  have hk' := (modeIn_iff m k).1 hk
  have hn' := (nodeOk_iff m n).1 hn
  have hkl : k.toNat < m.xs.length := by omega
  have hx : m.xs[k.toNat]? = some m.xs[k.toNat] := List.getElem?_eq_getElem hkl
  obtain ⟨h1, h2, -, -⟩ := medlOk_mode h _ (List.getElem_mem hkl)
  unfold slotK slotD
  rw [hx]
  simp only
  generalize hX : m.xs[k.toNat] = X at *
  have hair := mairI_le m.nodes m.xs
  by_cases hs : 0 < sizeI (kindI (X.es.getD n.toNat false) (X.ds.getD n.toNat 0)) (X.ds.getD n.toNat 0)
  · have hA := (mairTo_le m.nodes m.xs k.toNat).2
    have e1 : airTo m.nodes X.ds X.es (mairTo m.nodes m.xs k.toNat) (n.toNat + 1) = max (airTo m.nodes X.ds X.es (mairTo m.nodes m.xs k.toNat) n.toNat) (airI (sizeI (kindI (X.es.getD n.toNat false) (X.ds.getD n.toNat 0)) (X.ds.getD n.toNat 0))) :=
      airStep_yes _ _ _ _ _ (by omega) (by omega) hs
    have e2 := airTo_mono m.nodes X.ds X.es _ hA (n.toNat + 1) X.ds.length (by omega)
    have e3 : mairTo m.nodes m.xs (k.toNat + 1) = airTo m.nodes X.ds X.es (mairTo m.nodes m.xs k.toNat) X.ds.length := by rw [mairTo_succ m.nodes m.xs k.toNat hkl, hX]
    have e4 := mairTo_mono m.nodes m.xs (k.toNat + 1) m.xs.length (by omega) (Nat.le_refl _)
    have e5 : m.mair = mairTo m.nodes m.xs m.xs.length := rfl
    omega
  · have e6 := (sizeI_le (kindI (X.es.getD n.toNat false) (X.ds.getD n.toNat 0)) (X.ds.getD n.toNat 0)).1
    have e7 : sizeI (kindI (X.es.getD n.toNat false) (X.ds.getD n.toNat 0)) (X.ds.getD n.toNat 0) = 0 := by omega
    rw [e7]
    have e5 : m.mair = mairI m.nodes m.xs := rfl
    have e8 : airI 0 = 14 := by decide
    omega
set_option maxRecDepth 100000 in
set_option maxHeartbeats 1000000 in
theorem kindF_any (m : RMedl) (k n : Int) (w : World) (hm : m.In w) :
    Calls Try.prog 41 #[m.val, .int .i64 k, .int .i64 n] w fun e w' => e = .returned (pairVal (kindRes m k n)) ∧ Keeps w w' := by
  have HM := Lib.hid hm
  clear hm
  have HMO := Lib.hid (@medlOk_mode m)
  have HNK := Lib.hid (nodeOk_iff m n)
  have HIK := Lib.hid (modeIn_iff m k)
  have HCH := Lib.hid (cnode_any m n)
  have HR : Hid (kindRes m k n = cond (medlOk m && nodeOk m n) (cond (modeIn m k) (slotK m k n, 0) (0, 2)) (0, nodeErr m n)) := Lib.hid rfl
  have HE : Hid (nodeErr m n = cond (medlOk m) (cond (nodeOk m n) 0 2) 70) := Lib.hid rfl
  have HS : Hid (∀ x, m.xs[k.toNat]? = some x → slotK m k n = kindI (x.es.getD n.toNat false) (x.ds.getD n.toNat 0)) := Lib.hid (fun x hx => by unfold slotK; rw [hx])
  obtain ⟨R, hR⟩ : ∃ R, R = kindRes m k n := ⟨_, rfl⟩
  rw [← hR] at HR ⊢
  clear hR
  rw [HE.out] at HCH HR
  clear HE
  obtain ⟨A, hA⟩ : ∃ A, A = medlOk m := ⟨_, rfl⟩
  rw [← hA] at HR HCH HMO
  clear hA
  obtain ⟨N, hN⟩ : ∃ N, N = nodeOk m n := ⟨_, rfl⟩
  rw [← hN] at HR HCH HNK
  clear hN
  obtain ⟨G, hG⟩ : ∃ G, G = modeIn m k := ⟨_, rfl⟩
  rw [← hG] at HR HIK
  clear hG
  obtain ⟨S, hS⟩ : ∃ S, S = slotK m k n := ⟨_, rfl⟩
  rw [← hS] at HR HS
  clear hS
  obtain ⟨ca, cc, hcv, hc1, hc2, hc3⟩ := HM.out.c.shape
  clear hc3
  have HX := Lib.hid HM.out.m
  obtain ⟨no, sl, ga, wi, dr, de, cv, cs, ma, mn, mc, xs⟩ := m
  simp only at hcv hc1 HX HMO HNK HIK HCH HS
  have hlen := HX.out.len
  have hcap := HX.out.hcap
  have hmax := HX.out.hmax
  subst hlen hcv
  have HK := Lib.hid ((Keeps.refl w).alloc (.cells #[.int .i64 no, .int .i64 sl, .int .i64 ga, .int .i64 wi, .int .i64 dr, .int .i64 de, .slice ca cs.length cc, .slice ma xs.length mc] 25))
  have HB := Lib.hid (Box.new w 25 #[.int .i64 no, .int .i64 sl, .int .i64 ga, .int .i64 wi, .int .i64 dr, .int .i64 de, .slice ca cs.length cc, .slice ma xs.length mc])
  show Calls Try.prog 41 #[.agg #[.int .i64 no, .int .i64 sl, .int .i64 ga, .int .i64 wi, .int .i64 dr, .int .i64 de, .slice ca cs.length cc, .slice ma xs.length mc], .int .i64 k, .int .i64 n] w _
  cases A
  · go_enter Try.func41, Try.ntmps41
    go_wp2_with fail
    with_reducible refine (HCH.out _ (by exact HM.out.keeps HK.out)).mono ?_
    rintro e w1 ⟨rfl, hk1⟩
    replace HK := Lib.hid (HK.out.trans hk1)
    clear hk1
    simp only [cond_false, cond_true, Bool.false_and]
    go_wp2_with fail
    go_ret2
    exact ⟨by rw [HR.out]; rfl, HK.out⟩
  cases N
  · go_enter Try.func41, Try.ntmps41
    go_wp2_with fail
    with_reducible refine (HCH.out _ (by exact HM.out.keeps HK.out)).mono ?_
    rintro e w1 ⟨rfl, hk1⟩
    replace HK := Lib.hid (HK.out.trans hk1)
    clear hk1
    simp only [cond_false, cond_true, Bool.and_false]
    go_wp2_with fail
    go_ret2
    exact ⟨by rw [HR.out]; rfl, HK.out⟩
  have hnk := HNK.out.1 rfl
  clear HNK
  go_enter Try.func41, Try.ntmps41
  go_wp2_with fail
  with_reducible refine (HCH.out _ (by exact HM.out.keeps HK.out)).mono ?_
  rintro e w1 ⟨rfl, hk1⟩
  replace HB := Lib.hid (HB.out.keeps hk1)
  replace HK := Lib.hid (HK.out.trans hk1)
  clear hk1 HCH
  have m0 := HB.out.cell 0 _ rfl
  have m1 := HB.out.cell 1 _ rfl
  have m2 := HB.out.cell 2 _ rfl
  have m3 := HB.out.cell 3 _ rfl
  have m4 := HB.out.cell 4 _ rfl
  have m5 := HB.out.cell 5 _ rfl
  have m6 := HB.out.cell 6 _ rfl
  have m7 := HB.out.cell 7 _ rfl
  have ml := HB.out.lt
  simp only [cond_true]
  go_wp2_with fail
  with_reducible refine (within_any _ _ _ _).mono ?_
  rintro e w2 ⟨rfl, hk1⟩
  replace HB := Lib.hid (HB.out.keeps hk1)
  replace HK := Lib.hid (HK.out.trans hk1)
  clear hk1 m0 m1 m2 m3 m4 m5 m6 m7 ml
  have m0 := HB.out.cell 0 _ rfl
  have m1 := HB.out.cell 1 _ rfl
  have m2 := HB.out.cell 2 _ rfl
  have m3 := HB.out.cell 3 _ rfl
  have m4 := HB.out.cell 4 _ rfl
  have m5 := HB.out.cell 5 _ rfl
  have m6 := HB.out.cell 6 _ rfl
  have m7 := HB.out.cell 7 _ rfl
  have ml := HB.out.lt
  have hwi : withinB k 0 ((xs.length : Int) - 1) = G := by
    rw [Bool.eq_iff_iff, withinB_iff, HIK.out]; omega
  rw [hwi]
  clear hwi
  cases G
  · go_wp2_with fail
    go_ret2
    exact ⟨by rw [HR.out]; rfl, HK.out⟩
  have hik := HIK.out.1 rfl
  clear HIK
  obtain ⟨K, rfl⟩ := Int.eq_ofNat_of_zero_le hik.1
  obtain ⟨J, rfl⟩ := Int.eq_ofNat_of_zero_le hnk.1
  have hKl : K < xs.length := by omega
  obtain ⟨b, off, rfl, hcell⟩ := HX.out.addr (by omega)
  obtain ⟨e0, e1, e2⟩ := hcell K hKl
  replace e0 := HK.out.later e0
  replace e1 := HK.out.later e1
  replace e2 := HK.out.later e2
  have HXI := Lib.hid ((HX.out.isIn _ (List.getElem_mem hKl)).keeps HK.out)
  have HMD := Lib.hid (HMO.out (by first | rfl | trivial) _ (List.getElem_mem hKl))
  have HSX := Lib.hid (HS.out _ (by rw [Int.toNat_natCast]; exact List.getElem?_eq_getElem hKl))
  rw [Int.toNat_natCast] at HSX
  clear hcell HMO HS
  obtain ⟨x, hx⟩ : ∃ x, x = xs[K] := ⟨_, rfl⟩
  rw [← hx] at e0 e1 e2 HXI HMD HSX
  clear hx
  obtain ⟨xd, xe, xn, ds, es, ns⟩ := x
  have HDS := Lib.hid HXI.out.d
  have HES := Lib.hid HXI.out.e
  have HNS := Lib.hid HXI.out.n
  simp only at HDS HES HNS HMD HSX e0 e1 e2
  obtain ⟨da, dc, rfl, hd1, hd2, hd3⟩ := HDS.out.shape
  obtain ⟨ea, ec, rfl, he1, he2, he3⟩ := HES.out.shape
  obtain ⟨na, nc, rfl, hn1, hn2, hn3⟩ := HNS.out.shape
  clear hd3 he3 hn3
  have hJd : J < ds.length := by have := HMD.out.1; omega
  have hJe : J < es.length := by have := HMD.out.2.1; omega
  obtain ⟨b1, o1, rfl, hq1, -⟩ := HDS.out.shapeAt (by omega)
  obtain ⟨b2, o2, rfl, hq2, -⟩ := HES.out.boolAt' (by omega)
  have g1 := hq1 J hJd
  have g2 := hq2 J hJe
  clear hq1 hq2
  obtain ⟨d, hd⟩ : ∃ d, d = ds.getD J 0 := ⟨_, rfl⟩
  obtain ⟨eb, heb⟩ : ∃ eb, eb = es.getD J false := ⟨_, rfl⟩
  rw [← hd] at g1 HSX
  rw [← heb] at g2 HSX
  clear hd heb
  go_wp2_with fail
  have HXB := Lib.hid (Box.new w2 71 #[.slice (some ⟨b1, o1, none⟩) ds.length dc, .slice (some ⟨b2, o2, none⟩) es.length ec, .slice na ns.length nc])
  replace HB := Lib.hid (HB.out.next (.cells #[.slice (some ⟨b1, o1, none⟩) ds.length dc, .slice (some ⟨b2, o2, none⟩) es.length ec, .slice na ns.length nc] 71))
  replace HK := Lib.hid (HK.out.alloc (.cells #[.slice (some ⟨b1, o1, none⟩) ds.length dc, .slice (some ⟨b2, o2, none⟩) es.length ec, .slice na ns.length nc] 71))
  have c0 := HXB.out.later 0 _ rfl
  have c1 := HXB.out.later 1 _ rfl
  have c2 := fun q : Later (w2.alloc (.cells #[.slice (some ⟨b1, o1, none⟩) ds.length dc, .slice (some ⟨b2, o2, none⟩) es.length ec, .slice na ns.length nc] 71)) => (((Keeps.refl w2).alloc _).trans q.keeps).later g1
  have c3 := fun q : Later (w2.alloc (.cells #[.slice (some ⟨b1, o1, none⟩) ds.length dc, .slice (some ⟨b2, o2, none⟩) es.length ec, .slice na ns.length nc] 71)) => (((Keeps.refl w2).alloc _).trans q.keeps).later g2
  clear g1 g2 e0 e1 e2 m0 m1 m2 m3 m4 m5 m6 m7 ml
  refine wp_region_later (by kernel_rfl) (by kernel_rfl) ?_
  repeat (go_big_quiet_step (first | (go_at_call 74; with_reducible exact Later.calls _ (kind_any eb d _))))
  refine wpQuiet_nil ?_
  rintro _ ⟨q, rfl⟩
  have HKK := Lib.hid (HK.out.trans q.keeps)
  clear c0 c1 c2 c3
  go_wp2_with fail
  go_ret2
  exact ⟨by rw [HR.out, HSX.out]; rfl, HKK.out⟩
end Go.Proofs.Ytmjodcackmjllaa
