/- The walks of the reference of layer 7, 7: Air. -/
import Derived.Test.YtmjodcackmjllaaN5
namespace Go.Proofs.Ytmjodcackmjllaa
open Go.RowKit Go.Shelf
set_option linter.unusedVariables false
set_option linter.unusedSimpArgs false
set_option maxRecDepth 100000 in
set_option maxHeartbeats 1000000 in
theorem rairF_any (m : RMedl) (k n : Int) (w : World) (hm : m.In w) :
    Calls Try.prog 43 #[m.val, .int .i64 k, .int .i64 n] w fun e w' => e = .returned (pairVal (airRes m k n)) ∧ Keeps w w' := by
  have HM := Lib.hid hm
  clear hm
  have HMO := Lib.hid (@medlOk_mode m)
  have HNK := Lib.hid (nodeOk_iff m n)
  have HIK := Lib.hid (modeIn_iff m k)
  have HCH := Lib.hid (rkindF_any m k n)
  have HQ : Hid (kindRes m k n = cond (medlOk m && nodeOk m n) (cond (modeIn m k) (slotK m k n, 0) (0, 2)) (0, nodeErr m n)) := Lib.hid rfl
  have HR : Hid (airRes m k n = cond (medlOk m && nodeOk m n) (cond (modeIn m k) (airI (sizeI (slotK m k n) (slotD m k n)), 0) (0, 2)) (0, nodeErr m n)) := Lib.hid rfl
  have HE : Hid (nodeErr m n = cond (medlOk m) (cond (nodeOk m n) 0 2) 70) := Lib.hid rfl
  have HS : Hid (∀ x, m.xs[k.toNat]? = some x → slotK m k n = kindI (x.es.getD n.toNat false) (x.ds.getD n.toNat 0) ∧ slotD m k n = x.ds.getD n.toNat 0) := Lib.hid (fun x hx => by unfold slotK slotD; rw [hx]; exact ⟨rfl, rfl⟩)
  obtain ⟨R, hR⟩ : ∃ R, R = airRes m k n := ⟨_, rfl⟩
  rw [← hR] at HR ⊢
  clear hR
  rw [HQ.out, HE.out] at HCH
  rw [HE.out] at HR
  clear HE HQ
  obtain ⟨A, hA⟩ : ∃ A, A = medlOk m := ⟨_, rfl⟩
  rw [← hA] at HR HCH HMO
  clear hA
  obtain ⟨N, hN⟩ : ∃ N, N = nodeOk m n := ⟨_, rfl⟩
  rw [← hN] at HR HCH HNK
  clear hN
  obtain ⟨G, hG⟩ : ∃ G, G = modeIn m k := ⟨_, rfl⟩
  rw [← hG] at HR HIK HCH
  clear hG
  obtain ⟨S, hS⟩ : ∃ S, S = slotK m k n := ⟨_, rfl⟩
  obtain ⟨D, hD⟩ : ∃ D, D = slotD m k n := ⟨_, rfl⟩
  rw [← hS] at HR HS HCH
  rw [← hD] at HR HS
  clear hS hD
  obtain ⟨ca, cc, hcv, hc1, hc2, hc3⟩ := HM.out.c.shape
  clear hc3
  have HX := Lib.hid HM.out.m
  obtain ⟨no, sl, ga, wi, dr, de, cv, cs, ma, mn, mc, xs⟩ := m
  simp only at hcv hc1 HX HMO HNK HIK HCH HS
  have hlen := HX.out.len
  have hcap := HX.out.hcap
  have hmax := HX.out.hmax
  subst hlen hcv
  have HK := Lib.hid ((Keeps.refl w).alloc (.cells #[.int .i64 no, .int .i64 sl, .int .i64 ga, .int .i64 wi, .int .i64 dr, .int .i64 de, .slice ca cs.length cc, .slice ma xs.length mc] 25))
  have HB := Lib.hid (Box.new w 25 #[.int .i64 no, .int .i64 sl, .int .i64 ga, .int .i64 wi, .int .i64 dr, .int .i64 de, .slice ca cs.length cc, .slice ma xs.length mc])
  show Calls Try.prog 43 #[.agg #[.int .i64 no, .int .i64 sl, .int .i64 ga, .int .i64 wi, .int .i64 dr, .int .i64 de, .slice ca cs.length cc, .slice ma xs.length mc], .int .i64 k, .int .i64 n] w _
  by_cases hall : A = true ∧ N = true ∧ G = true
  case neg =>
    have hbad : ∃ z : Int, z ≠ 0 ∧ R = (0, z) ∧ cond (A && N) (cond G (S, (0 : Int)) (0, 2)) (0, cond A (cond N 0 2) 70) = (0, z) := by
      cases A
      · exact ⟨70, by decide, by rw [HR.out]; rfl, rfl⟩
      cases N
      · exact ⟨2, by decide, by rw [HR.out]; rfl, rfl⟩
      cases G
      · exact ⟨2, by decide, by rw [HR.out]; rfl, rfl⟩
      · exact absurd ⟨rfl, rfl, rfl⟩ hall
    obtain ⟨z, hz, hRz, hCz⟩ := hbad
    rw [hCz] at HCH
    have HRz := Lib.hid hRz
    have d1 : (z != 0) = true := by rw [bne_iff_ne]; exact hz
    clear hRz hCz hz hall
    go_enter Try.func43, Try.ntmps43
    go_wp2_with fail
    with_reducible refine (HCH.out _ (by exact HM.out.keeps HK.out)).mono ?_
    rintro e w1 ⟨rfl, hk1⟩
    replace HK := Lib.hid (HK.out.trans hk1)
    clear hk1
    go_wp2_with fail
    go_ret2
    exact ⟨by rw [HRz.out]; rfl, HK.out⟩
  obtain ⟨rfl, rfl, rfl⟩ := hall
  have hnk := HNK.out.1 rfl
  have hik := HIK.out.1 rfl
  clear HNK HIK
  go_enter Try.func43, Try.ntmps43
  go_wp2_with fail
  with_reducible refine (HCH.out _ (by exact HM.out.keeps HK.out)).mono ?_
  rintro e w1 ⟨rfl, hk1⟩
  replace HB := Lib.hid (HB.out.keeps hk1)
  replace HK := Lib.hid (HK.out.trans hk1)
  clear hk1 HCH
  have m0 := HB.out.cell 0 _ rfl
  have m1 := HB.out.cell 1 _ rfl
  have m2 := HB.out.cell 2 _ rfl
  have m3 := HB.out.cell 3 _ rfl
  have m4 := HB.out.cell 4 _ rfl
  have m5 := HB.out.cell 5 _ rfl
  have m6 := HB.out.cell 6 _ rfl
  have m7 := HB.out.cell 7 _ rfl
  have ml := HB.out.lt
  simp only [cond_true, Bool.and_self]
  obtain ⟨K, rfl⟩ := Int.eq_ofNat_of_zero_le hik.1
  obtain ⟨J, rfl⟩ := Int.eq_ofNat_of_zero_le hnk.1
  have hKl : K < xs.length := by omega
  obtain ⟨b, off, rfl, hcell⟩ := HX.out.addr (by omega)
  obtain ⟨e0, e1, e2⟩ := hcell K hKl
  replace e0 := HK.out.later e0
  replace e1 := HK.out.later e1
  replace e2 := HK.out.later e2
  have HXI := Lib.hid ((HX.out.isIn _ (List.getElem_mem hKl)).keeps HK.out)
  have HMD := Lib.hid (HMO.out (by first | rfl | trivial) _ (List.getElem_mem hKl))
  have HSX := Lib.hid (HS.out _ (by rw [Int.toNat_natCast]; exact List.getElem?_eq_getElem hKl))
  rw [Int.toNat_natCast] at HSX
  clear hcell HMO HS
  obtain ⟨x, hx⟩ : ∃ x, x = xs[K] := ⟨_, rfl⟩
  rw [← hx] at e0 e1 e2 HXI HMD HSX
  clear hx
  obtain ⟨xd, xe, xn, ds, es, ns⟩ := x
  have HDS := Lib.hid HXI.out.d
  have HES := Lib.hid HXI.out.e
  have HNS := Lib.hid HXI.out.n
  simp only at HDS HES HNS HMD HSX e0 e1 e2
  obtain ⟨da, dc, rfl, hd1, hd2, hd3⟩ := HDS.out.shape
  obtain ⟨ea, ec, rfl, he1, he2, he3⟩ := HES.out.shape
  obtain ⟨na, nc, rfl, hn1, hn2, hn3⟩ := HNS.out.shape
  clear hd3 he3 hn3
  have hJd : J < ds.length := by have := HMD.out.1; omega
  obtain ⟨b1, o1, rfl, hq1, -⟩ := HDS.out.shapeAt (by omega)
  have g1 := hq1 J hJd
  clear hq1
  have hkc := kindI_cases (es.getD J false) (ds.getD J 0)
  rw [← HSX.out.1] at hkc
  obtain ⟨d, hd⟩ : ∃ d, d = ds.getD J 0 := ⟨_, rfl⟩
  rw [← hd] at g1 HSX
  clear hd
  have HSD : Hid (D = d) := Lib.hid HSX.out.2
  clear HSX
  go_wp2_with fail
  with_reducible refine (rsize_any S d _ (by omega)).mono ?_
  rintro e w2 ⟨rfl, hk1⟩
  replace HK := Lib.hid (HK.out.trans hk1)
  clear hk1
  have hsz := sizeI_le S d
  obtain ⟨Z, hZ⟩ : ∃ Z, Z = sizeI S d := ⟨_, rfl⟩
  rw [HSD.out, ← hZ] at HR
  rw [← hZ] at hsz ⊢
  clear hZ
  go_wp2_with fail
  with_reducible refine (rair_any Z _ (by omega)).mono ?_
  rintro e w3 ⟨rfl, hk1⟩
  replace HK := Lib.hid (HK.out.trans hk1)
  clear hk1
  go_wp2_with fail
  go_ret2
  exact ⟨by rw [HR.out]; rfl, HK.out⟩
end Go.Proofs.Ytmjodcackmjllaa
