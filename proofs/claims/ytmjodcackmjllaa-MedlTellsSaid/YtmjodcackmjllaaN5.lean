/- The walks of the reference of layer 7, 6: Kind, Air. -/
import Derived.Test.YtmjodcackmjllaaN3
import Derived.Test.YtmjodcackmjllaaN2
namespace Go.Proofs.Ytmjodcackmjllaa
open Go.RowKit Go.Shelf
set_option linter.unusedVariables false
set_option linter.unusedSimpArgs false
set_option maxRecDepth 100000 in
set_option maxHeartbeats 1000000 in
theorem rkindF_any (m : RMedl) (k n : Int) (w : World) (hm : m.In w) :
    Calls Try.prog 42 #[m.val, .int .i64 k, .int .i64 n] w fun e w' => e = .returned (pairVal (kindRes m k n)) ∧ Keeps w w' := by
  have HM := Lib.hid hm
  clear hm
  have HMO := Lib.hid (@medlOk_mode m)
  have HNK := Lib.hid (nodeOk_iff m n)
  have HIK := Lib.hid (modeIn_iff m k)
  have HCH := Lib.hid (rnode_any m n)
  have HR : Hid (kindRes m k n = cond (medlOk m && nodeOk m n) (cond (modeIn m k) (slotK m k n, 0) (0, 2)) (0, nodeErr m n)) := Lib.hid rfl
  have HE : Hid (nodeErr m n = cond (medlOk m) (cond (nodeOk m n) 0 2) 70) := Lib.hid rfl
  have HS : Hid (∀ x, m.xs[k.toNat]? = some x → slotK m k n = kindI (x.es.getD n.toNat false) (x.ds.getD n.toNat 0)) := Lib.hid (fun x hx => by unfold slotK; rw [hx])
  obtain ⟨R, hR⟩ : ∃ R, R = kindRes m k n := ⟨_, rfl⟩
  rw [← hR] at HR ⊢
  clear hR
  rw [HE.out] at HCH HR
  clear HE
  obtain ⟨A, hA⟩ : ∃ A, A = medlOk m := ⟨_, rfl⟩
  rw [← hA] at HR HCH HMO
  clear hA
  obtain ⟨N, hN⟩ : ∃ N, N = nodeOk m n := ⟨_, rfl⟩
  rw [← hN] at HR HCH HNK
  clear hN
  obtain ⟨G, hG⟩ : ∃ G, G = modeIn m k := ⟨_, rfl⟩
  rw [← hG] at HR HIK
  clear hG
  obtain ⟨S, hS⟩ : ∃ S, S = slotK m k n := ⟨_, rfl⟩
  rw [← hS] at HR HS
  clear hS
  obtain ⟨ca, cc, hcv, hc1, hc2, hc3⟩ := HM.out.c.shape
  clear hc3
  have HX := Lib.hid HM.out.m
  obtain ⟨no, sl, ga, wi, dr, de, cv, cs, ma, mn, mc, xs⟩ := m
  simp only at hcv hc1 HX HMO HNK HIK HCH HS
  have hlen := HX.out.len
  have hcap := HX.out.hcap
  have hmax := HX.out.hmax
  subst hlen hcv
  have HK := Lib.hid ((Keeps.refl w).alloc (.cells #[.int .i64 no, .int .i64 sl, .int .i64 ga, .int .i64 wi, .int .i64 dr, .int .i64 de, .slice ca cs.length cc, .slice ma xs.length mc] 25))
  have HB := Lib.hid (Box.new w 25 #[.int .i64 no, .int .i64 sl, .int .i64 ga, .int .i64 wi, .int .i64 dr, .int .i64 de, .slice ca cs.length cc, .slice ma xs.length mc])
  show Calls Try.prog 42 #[.agg #[.int .i64 no, .int .i64 sl, .int .i64 ga, .int .i64 wi, .int .i64 dr, .int .i64 de, .slice ca cs.length cc, .slice ma xs.length mc], .int .i64 k, .int .i64 n] w _
  cases A
  · go_enter Try.func42, Try.ntmps42
    go_wp2_with fail
    with_reducible refine (HCH.out _ (by exact HM.out.keeps HK.out)).mono ?_
    rintro e w1 ⟨rfl, hk1⟩
    replace HK := Lib.hid (HK.out.trans hk1)
    clear hk1
    simp only [cond_false, cond_true, Bool.false_and]
    go_wp2_with fail
    go_ret2
    exact ⟨by rw [HR.out]; rfl, HK.out⟩
  cases N
  · go_enter Try.func42, Try.ntmps42
    go_wp2_with fail
    with_reducible refine (HCH.out _ (by exact HM.out.keeps HK.out)).mono ?_
    rintro e w1 ⟨rfl, hk1⟩
    replace HK := Lib.hid (HK.out.trans hk1)
    clear hk1
    simp only [cond_false, cond_true, Bool.and_false]
    go_wp2_with fail
    go_ret2
    exact ⟨by rw [HR.out]; rfl, HK.out⟩
  have hnk := HNK.out.1 rfl
  clear HNK
  go_enter Try.func42, Try.ntmps42
  go_wp2_with fail
  with_reducible refine (HCH.out _ (by exact HM.out.keeps HK.out)).mono ?_
  rintro e w1 ⟨rfl, hk1⟩
  replace HB := Lib.hid (HB.out.keeps hk1)
  replace HK := Lib.hid (HK.out.trans hk1)
  clear hk1 HCH
  have m0 := HB.out.cell 0 _ rfl
  have m1 := HB.out.cell 1 _ rfl
  have m2 := HB.out.cell 2 _ rfl
  have m3 := HB.out.cell 3 _ rfl
  have m4 := HB.out.cell 4 _ rfl
  have m5 := HB.out.cell 5 _ rfl
  have m6 := HB.out.cell 6 _ rfl
  have m7 := HB.out.cell 7 _ rfl
  have ml := HB.out.lt
  simp only [cond_true]
  cases G
  · have hno : k < 0 ∨ (xs.length : Int) ≤ k := by
      have h := HIK.out
      by_cases h1 : k < 0
      · exact .inl h1
      · refine .inr ?_
        by_cases h2 : (xs.length : Int) ≤ k
        · exact h2
        · have := h.2 (by omega)
          cases this
    by_cases h1 : k < 0
    · have d1 : decide (k < 0) = true := by simpa using h1
      go_wp2_with fail
      go_ret2
      exact ⟨by rw [HR.out]; rfl, HK.out⟩
    · have d1 : decide (k < 0) = false := by simpa using h1
      have d2 : decide ((xs.length : Int) ≤ k) = true := by simp; omega
      go_wp2_with fail
      go_ret2
      exact ⟨by rw [HR.out]; rfl, HK.out⟩
  have hik := HIK.out.1 rfl
  clear HIK
  have d1 : decide (k < 0) = false := by simp; omega
  have d2 : decide ((xs.length : Int) ≤ k) = false := by simp; omega
  obtain ⟨K, rfl⟩ := Int.eq_ofNat_of_zero_le hik.1
  obtain ⟨J, rfl⟩ := Int.eq_ofNat_of_zero_le hnk.1
  have hKl : K < xs.length := by omega
  obtain ⟨b, off, rfl, hcell⟩ := HX.out.addr (by omega)
  obtain ⟨e0, e1, e2⟩ := hcell K hKl
  replace e0 := HK.out.later e0
  replace e1 := HK.out.later e1
  replace e2 := HK.out.later e2
  have HXI := Lib.hid ((HX.out.isIn _ (List.getElem_mem hKl)).keeps HK.out)
  have HMD := Lib.hid (HMO.out (by first | rfl | trivial) _ (List.getElem_mem hKl))
  have HSX := Lib.hid (HS.out _ (by rw [Int.toNat_natCast]; exact List.getElem?_eq_getElem hKl))
  rw [Int.toNat_natCast] at HSX
  clear hcell HMO HS
  obtain ⟨x, hx⟩ : ∃ x, x = xs[K] := ⟨_, rfl⟩
  rw [← hx] at e0 e1 e2 HXI HMD HSX
  clear hx
  obtain ⟨xd, xe, xn, ds, es, ns⟩ := x
  have HDS := Lib.hid HXI.out.d
  have HES := Lib.hid HXI.out.e
  have HNS := Lib.hid HXI.out.n
  simp only at HDS HES HNS HMD HSX e0 e1 e2
  obtain ⟨da, dc, rfl, hd1, hd2, hd3⟩ := HDS.out.shape
  obtain ⟨ea, ec, rfl, he1, he2, he3⟩ := HES.out.shape
  obtain ⟨na, nc, rfl, hn1, hn2, hn3⟩ := HNS.out.shape
  clear hd3 he3 hn3
  have hJd : J < ds.length := by have := HMD.out.1; omega
  have hJe : J < es.length := by have := HMD.out.2.1; omega
  obtain ⟨b1, o1, rfl, hq1, -⟩ := HDS.out.shapeAt (by omega)
  obtain ⟨b2, o2, rfl, hq2, -⟩ := HES.out.boolAt' (by omega)
  have g1 := hq1 J hJd
  have g2 := hq2 J hJe
  clear hq1 hq2
  obtain ⟨d, hd⟩ : ∃ d, d = ds.getD J 0 := ⟨_, rfl⟩
  obtain ⟨eb, heb⟩ : ∃ eb, eb = es.getD J false := ⟨_, rfl⟩
  rw [← hd] at g1 HSX
  rw [← heb] at g2 HSX
  clear hd heb
  go_wp2_with fail
  have HXB := Lib.hid (Box.new w1 71 #[.slice (some ⟨b1, o1, none⟩) ds.length dc, .slice (some ⟨b2, o2, none⟩) es.length ec, .slice na ns.length nc])
  replace HB := Lib.hid (HB.out.next (.cells #[.slice (some ⟨b1, o1, none⟩) ds.length dc, .slice (some ⟨b2, o2, none⟩) es.length ec, .slice na ns.length nc] 71))
  replace HK := Lib.hid (HK.out.alloc (.cells #[.slice (some ⟨b1, o1, none⟩) ds.length dc, .slice (some ⟨b2, o2, none⟩) es.length ec, .slice na ns.length nc] 71))
  have c0 := HXB.out.later 0 _ rfl
  have c1 := HXB.out.later 1 _ rfl
  have c2 := fun q : Later (w1.alloc (.cells #[.slice (some ⟨b1, o1, none⟩) ds.length dc, .slice (some ⟨b2, o2, none⟩) es.length ec, .slice na ns.length nc] 71)) => (((Keeps.refl w1).alloc _).trans q.keeps).later g1
  have c3 := fun q : Later (w1.alloc (.cells #[.slice (some ⟨b1, o1, none⟩) ds.length dc, .slice (some ⟨b2, o2, none⟩) es.length ec, .slice na ns.length nc] 71)) => (((Keeps.refl w1).alloc _).trans q.keeps).later g2
  clear g1 g2 e0 e1 e2 m0 m1 m2 m3 m4 m5 m6 m7 ml
  refine wp_region_later (by kernel_rfl) (by kernel_rfl) ?_
  repeat (go_big_quiet_step (first | (go_at_call 77; with_reducible exact Later.calls _ (rkind_any eb d _))))
  refine wpQuiet_nil ?_
  rintro _ ⟨q, rfl⟩
  have HKK := Lib.hid (HK.out.trans q.keeps)
  clear c0 c1 c2 c3
  go_wp2_with fail
  go_ret2
  exact ⟨by rw [HR.out, HSX.out]; rfl, HKK.out⟩
end Go.Proofs.Ytmjodcackmjllaa
