/- Layer 10, 8: modes.Reach. -/
import Derived.Test.YtmjodcackmjllaaD1
import Derived.Test.YtmjodcackmjllaaE0
import Derived.Test.YtmjodcackmjllaaM12
import Derived.Deep.DeepCutAuto
namespace Go.Proofs.Ytmjodcackmjllaa
open Go.RowKit Go.Shelf
set_option linter.unusedVariables false
set_option linter.unusedSimpArgs false
def arr4 (f : Nat → Nat) : Array Value := #[.int .i64 (f 0), .int .i64 (f 1), .int .i64 (f 2), .int .i64 (f 3)]
theorem arr4_get (f : Nat → Nat) (q : Nat) (hq : q < 4) : (arr4 f)[q]? = some (.int .i64 (f q)) := by
  match q, hq with
  | 0, _ => rfl
  | 1, _ => rfl
  | 2, _ => rfl
  | 3, _ => rfl
theorem arr4_set (f : Nat → Nat) (q v : Nat) (hq : q < 4) : (arr4 f).setIfInBounds q (.int .i64 (v : Int)) = arr4 (fun x => if x = q then v else f x) := by
  match q, hq with
  | 0, _ => rfl
  | 1, _ => rfl
  | 2, _ => rfl
  | 3, _ => rfl
theorem arr4_init (s : Nat) (hs : s < 4) : (([.int .i64 0, .int .i64 0, .int .i64 0, .int .i64 0] : List Value).set s (.int .i64 1)).toArray = arr4 (fun q => if q = s then 1 else 0) := by
  match s, hs with
  | 0, _ => rfl
  | 1, _ => rfl
  | 2, _ => rfl
  | 3, _ => rfl
theorem Box.put4 {w : World} {b t : Nat} {f g : Nat → Nat} (h : Box w b t (arr4 f)) (q v : Nat) (hq : q < 4) (hg : g = fun x => if x = q then v else f x) : Box (w.setCell ⟨b, q, none⟩ (.int .i64 (v : Int))) b t (arr4 g) := by
  have h2 := Box.putM h q (.int .i64 (v : Int))
  rw [arr4_set f q v hq, ← hg] at h2
  exact h2
set_option maxRecDepth 100000 in
set_option maxHeartbeats 8000000 in
theorem reachX_any (m : RMedl) (s0 q0 ch : Int) (w : World) (hm : m.In w) : Calls Try.prog 23 #[m.val, .int .i64 s0, .int .i64 q0, .int .i64 ch] w fun e w' => e = .returned (.tuple #[.bool (reachR m s0 q0 ch).1, .int .i64 (reachR m s0 q0 ch).2]) ∧ Keeps w w' := by
  have HM := Lib.hid hm
  clear hm
  have HCH : Hid (∀ w, m.In w → Calls Try.prog 21 #[m.val] w fun e w' => e = .returned (.int .i64 (cond (medlOk m) 0 70)) ∧ Keeps w w') := Lib.hid (mcheck_any m)
  have HI1 := Lib.hid (isModeX_any m s0)
  have HI2 := Lib.hid (isModeX_any m q0)
  have HS1 := Lib.hid (mIn_iff m s0)
  have HS2 := Lib.hid (mIn_iff m q0)
  have HR : Hid (reachR m s0 q0 ch = cond (medlOk m) (cond (mIn m s0 && (mIn m q0 && decide (0 ≤ ch))) (decide (0 < farP m s0 q0) && decide ((farP m s0 q0 : Int) - 1 ≤ ch), 0) (false, 2)) (false, 70)) := Lib.hid rfl
  have HFP : Hid (∀ s q : Nat, s0 = s → q0 = q → farP m s0 q0 = bfs (adj m) m.xs.length s m.xs.length q) := Lib.hid (fun s q h1 h2 => by subst h1 h2; rfl)
  have HC4 := Lib.hid (@medlOk_cnt m)
  have HNS := Lib.hid (@medlOk_ns m)
  have HAO := Lib.hid (@adj_out m)
  have HAD : Hid (∀ (i j : Nat) (h : i < m.xs.length), adj m i j = (m.xs[i]).ns.getD j false) := Lib.hid (fun i j h => by
    unfold adj nextAt
    rw [Int.toNat_natCast, Int.toNat_natCast, List.getElem?_eq_getElem h])
  obtain ⟨R, hR⟩ : ∃ R, R = reachR m s0 q0 ch := ⟨_, rfl⟩
  obtain ⟨OK, hOK⟩ : ∃ OK, OK = medlOk m := ⟨_, rfl⟩
  obtain ⟨I1, hI1⟩ : ∃ I1, I1 = mIn m s0 := ⟨_, rfl⟩
  obtain ⟨I2, hI2⟩ : ∃ I2, I2 = mIn m q0 := ⟨_, rfl⟩
  obtain ⟨FP, hFP⟩ : ∃ FP, FP = farP m s0 q0 := ⟨_, rfl⟩
  obtain ⟨A, hA⟩ : ∃ A, A = adj m := ⟨_, rfl⟩
  rw [← hR, ← hOK, ← hI1, ← hI2, ← hFP] at HR
  rw [← hOK] at HCH HC4 HNS HAO
  rw [← hI1] at HI1 HS1
  rw [← hI2] at HI2 HS2
  rw [← hFP, ← hA] at HFP
  rw [← hA] at HAO HAD
  rw [← hR]
  clear hR hOK hI1 hI2 hFP hA
  obtain ⟨ca, cc, hcv, hc1, hc2, hc3⟩ := HM.out.c.shape
  clear hc3
  have HX := Lib.hid HM.out.m
  obtain ⟨no, sl, ga, wi, dr, de, cv, cs, ma, mn, mc, xs⟩ := m
  simp only at hcv hc1 HX HS1 HS2 HFP HC4 HNS HAO HAD
  have hlen := HX.out.len
  have hcap := HX.out.hcap
  have hmax := HX.out.hmax
  subst hlen hcv
  have HK := Lib.hid ((Keeps.refl w).alloc (.cells #[.int .i64 no, .int .i64 sl, .int .i64 ga, .int .i64 wi, .int .i64 dr, .int .i64 de, .slice ca cs.length cc, .slice ma xs.length mc] 25))
  have HB := Lib.hid (Box.new w 25 #[.int .i64 no, .int .i64 sl, .int .i64 ga, .int .i64 wi, .int .i64 dr, .int .i64 de, .slice ca cs.length cc, .slice ma xs.length mc])
  show Calls Try.prog 23 #[.agg #[.int .i64 no, .int .i64 sl, .int .i64 ga, .int .i64 wi, .int .i64 dr, .int .i64 de, .slice ca cs.length cc, .slice ma xs.length mc], .int .i64 s0, .int .i64 q0, .int .i64 ch] w _
  go_enter Try.func23, Try.ntmps23
  go_wp2_with fail
  with_reducible refine (HCH.out _ (by exact HM.out.keeps HK.out)).mono ?_
  rintro e w1 ⟨rfl, hk1⟩
  replace HB := Lib.hid (HB.out.keeps hk1)
  replace HK := Lib.hid (HK.out.trans hk1)
  clear hk1
  have m0 := HB.out.cell 0 _ rfl
  have m1 := HB.out.cell 1 _ rfl
  have m2 := HB.out.cell 2 _ rfl
  have m3 := HB.out.cell 3 _ rfl
  have m4 := HB.out.cell 4 _ rfl
  have m5 := HB.out.cell 5 _ rfl
  have m6 := HB.out.cell 6 _ rfl
  have m7 := HB.out.cell 7 _ rfl
  have ml := HB.out.lt
  cases OK
  · simp only [cond_false] at HR ⊢
    go_wp2_with fail
    go_ret2
    exact ⟨by rw [HR.out]; rfl, HK.out⟩
  simp only [cond_true] at HR ⊢
  have h4 := HC4.out rfl
  have HNS2 := Lib.hid (HNS.out rfl)
  have HAO2 := Lib.hid (HAO.out rfl)
  clear HC4 HNS HAO
  go_wp2_with fail
  with_reducible refine (HI1.out _ (by exact HM.out.keeps HK.out)).mono ?_
  rintro e w2 ⟨rfl, hk1⟩
  replace HB := Lib.hid (HB.out.keeps hk1)
  replace HK := Lib.hid (HK.out.trans hk1)
  clear hk1 m0 m1 m2 m3 m4 m5 m6 m7 ml
  have m0 := HB.out.cell 0 _ rfl
  have m1 := HB.out.cell 1 _ rfl
  have m2 := HB.out.cell 2 _ rfl
  have m3 := HB.out.cell 3 _ rfl
  have m4 := HB.out.cell 4 _ rfl
  have m5 := HB.out.cell 5 _ rfl
  have m6 := HB.out.cell 6 _ rfl
  have m7 := HB.out.cell 7 _ rfl
  have ml := HB.out.lt
  cases I1
  · rw [Bool.false_and] at HR
    simp only [cond_false] at HR
    go_wp2_with fail
    go_ret2
    exact ⟨by rw [HR.out]; rfl, HK.out⟩
  rw [Bool.true_and] at HR
  have hs1 := HS1.out.1 rfl
  clear HS1
  go_wp2_with fail
  with_reducible refine (HI2.out _ (by exact HM.out.keeps HK.out)).mono ?_
  rintro e w3 ⟨rfl, hk1⟩
  replace HB := Lib.hid (HB.out.keeps hk1)
  replace HK := Lib.hid (HK.out.trans hk1)
  clear hk1 m0 m1 m2 m3 m4 m5 m6 m7 ml
  have m0 := HB.out.cell 0 _ rfl
  have m1 := HB.out.cell 1 _ rfl
  have m2 := HB.out.cell 2 _ rfl
  have m3 := HB.out.cell 3 _ rfl
  have m4 := HB.out.cell 4 _ rfl
  have m5 := HB.out.cell 5 _ rfl
  have m6 := HB.out.cell 6 _ rfl
  have m7 := HB.out.cell 7 _ rfl
  have ml := HB.out.lt
  cases I2
  · rw [Bool.false_and] at HR
    simp only [cond_false] at HR
    go_wp2_with fail
    go_ret2
    exact ⟨by rw [HR.out]; rfl, HK.out⟩
  rw [Bool.true_and] at HR
  have hs2 := HS2.out.1 rfl
  clear HS2
  by_cases hch : ch < 0
  · have d0 : decide (ch < 0) = true := decide_eq_true hch
    rw [decide_eq_false (show ¬ 0 ≤ ch by omega)] at HR
    simp only [cond_false] at HR
    go_wp2_with fail
    go_ret2
    exact ⟨by rw [HR.out]; rfl, HK.out⟩
  have d0 : decide (ch < 0) = false := decide_eq_false hch
  rw [decide_eq_true (show 0 ≤ ch by omega)] at HR
  simp only [cond_true] at HR
  obtain ⟨s, rfl⟩ := Int.eq_ofNat_of_zero_le hs1.1
  obtain ⟨q, rfl⟩ := Int.eq_ofNat_of_zero_le hs2.1
  have HFQ := Lib.hid (HFP.out s q rfl rfl)
  clear HFP
  obtain ⟨n, hn⟩ : ∃ n, n = xs.length := ⟨_, rfl⟩
  have hn1 : 1 ≤ n ∧ n ≤ 4 := by omega
  have hsn : s < n := by omega
  have hqn : q < n := by omega
  have hs4 : s < 4 := by omega
  have hq4 : q < 4 := by omega
  have HLN := Lib.hid hn
  clear m0 m1 m2 m3 m4 m5 m6 m7 ml
  rw [← hn] at HFQ HAO2 HB HM HX h4 hcap HNS2 ⊢
  clear hn
  have m0 := HB.out.cell 0 _ rfl
  have m1 := HB.out.cell 1 _ rfl
  have m2 := HB.out.cell 2 _ rfl
  have m3 := HB.out.cell 3 _ rfl
  have m4 := HB.out.cell 4 _ rfl
  have m5 := HB.out.cell 5 _ rfl
  have m6 := HB.out.cell 6 _ rfl
  have m7 := HB.out.cell 7 _ rfl
  have ml := HB.out.lt
  have hml := HB.out.lt
  go_upto_region 8 with fail
  obtain ⟨W, hW⟩ : ∃ W, W = w3.alloc (.cells (([.int .i64 0, .int .i64 0, .int .i64 0, .int .i64 0] : List Value).set s (.int .i64 1)).toArray 81) := ⟨_, rfl⟩
  have HF : Hid (Box W w3.heap.size 81 (arr4 (bfs A n s 0))) := Lib.hid (by
    rw [hW]
    have h := Box.new w3 81 (arr4 (bfs A n s 0))
    rw [show arr4 (bfs A n s 0) = (([.int .i64 0, .int .i64 0, .int .i64 0, .int .i64 0] : List Value).set s (.int .i64 1)).toArray from (arr4_init s hs4).symm] at h ⊢
    exact h)
  replace HB : Hid (Box W w.heap.size 25 #[.int .i64 no, .int .i64 sl, .int .i64 ga, .int .i64 wi, .int .i64 dr, .int .i64 de, .slice ca cs.length cc, .slice ma n mc]) := Lib.hid (by rw [hW]; exact HB.out.next _)
  replace HK : Hid (Keeps w W) := Lib.hid (by rw [hW]; exact HK.out.alloc _)
  rw [← hW]
  obtain ⟨F, hF⟩ : ∃ F, F = w3.heap.size := ⟨_, rfl⟩
  have hwF : w.heap.size < F := by rw [hF]; exact hml
  rw [← hF] at HF ⊢
  clear hW hF hml m0 m1 m2 m3 m4 m5 m6 m7 ml hch hs1 hs2
  obtain ⟨sb, so, hab, hcell⟩ := HX.out.addr (show 0 < xs.length by have := HLN.out; omega)
  subst hab
  have HCELL := Lib.hid hcell
  clear hcell
  go_wp2_with fail
  go_loopw [12] (fun v wr => ∃ K : Nat, 1 ≤ K ∧ K ≤ n + 1 ∧ v = .int .i64 K ∧ Hid (Box wr w.heap.size 25 #[.int .i64 no, .int .i64 sl, .int .i64 ga, .int .i64 wi, .int .i64 dr, .int .i64 de, .slice ca cs.length cc, .slice (some ⟨sb, so, none⟩) n mc]) ∧ Hid (Box wr F 81 (arr4 (bfs A n s (K - 1)))) ∧ Hid (Keeps w wr)) (fun v _ => n + 1 - (intOf v).toNat)
  case atStart => exact ⟨1, Nat.le_refl _, by omega, rfl, HB, HF, HK⟩
  case round =>
    clear HB HF HK
    obtain ⟨K, hK1, hKn, rfl, HB, HF, HK⟩ := hrel
    have m0 := HB.out.cell 0 _ rfl
    have m1 := HB.out.cell 1 _ rfl
    have m2 := HB.out.cell 2 _ rfl
    have m3 := HB.out.cell 3 _ rfl
    have m4 := HB.out.cell 4 _ rfl
    have m5 := HB.out.cell 5 _ rfl
    have m6 := HB.out.cell 6 _ rfl
    have m7 := HB.out.cell 7 _ rfl
    have ml := HB.out.lt
    by_cases hKl : K ≤ n
    case neg =>
      obtain rfl : K = n + 1 := by omega
      have e1 : decide (((n + 1 : Nat) : Int) ≤ (n : Int)) = false := decide_eq_false (by omega)
      have e2 : decide (n + 1 ≤ n) = false := decide_eq_false (by omega)
      have e3 : decide (n < n) = false := decide_eq_false (by omega)
      have hcq := HF.out.cell q _ (arr4_get _ q hq4)
      rw [Nat.add_sub_cancel, ← HFQ.out] at hcq
      by_cases h0 : 0 < FP
      · have d1 : decide (0 < FP) = true := decide_eq_true h0
        have d2 : decide ((0 : Int) < (FP : Int)) = true := by simp; omega
        have hFPn : FP ≤ n := by rw [HFQ.out]; exact bfs_le A n s hsn HAO2.out n q
        have hw1 : IntKind.i64.wrap ((FP : Int) - 1) = (FP : Int) - 1 := IntWalk.i64_in _ (by omega)
        rw [d1, Bool.true_and] at HR
        by_cases h1 : (FP : Int) - 1 ≤ ch
        · have d3 : decide ((FP : Int) - 1 ≤ ch) = true := decide_eq_true h1
          rw [d3] at HR
          go_wp2_with fail
          go_ret2
          exact ⟨by rw [HR.out]; rfl, HK.out⟩
        · have d3 : decide ((FP : Int) - 1 ≤ ch) = false := decide_eq_false h1
          rw [d3] at HR
          go_wp2_with fail
          go_ret2
          exact ⟨by rw [HR.out]; rfl, HK.out⟩
      · have d1 : decide (0 < FP) = false := decide_eq_false h0
        have d2 : decide ((0 : Int) < (FP : Int)) = false := by simp; omega
        rw [d1, Bool.false_and] at HR
        go_wp2_with fail
        go_ret2
        exact ⟨by rw [HR.out]; rfl, HK.out⟩
    have e1 : decide ((K : Int) ≤ (n : Int)) = true := decide_eq_true (by omega)
    have e2 : decide (K ≤ n) = true := decide_eq_true (by omega)
    have HFS : Hid (Box wr F 81 (arr4 (stf A (bfs A n s (K - 1)) K 0 0))) := Lib.hid (by rw [stf_start]; exact HF.out)
    go_wp2_with fail
    go_loopw [48] (fun v wr => ∃ i : Nat, i ≤ n ∧ v = .int .i64 i ∧ Hid (Box wr w.heap.size 25 #[.int .i64 no, .int .i64 sl, .int .i64 ga, .int .i64 wi, .int .i64 dr, .int .i64 de, .slice ca cs.length cc, .slice (some ⟨sb, so, none⟩) n mc]) ∧ Hid (Box wr F 81 (arr4 (stf A (bfs A n s (K - 1)) K i 0))) ∧ Hid (Keeps w wr)) (fun v _ => n - (intOf v).toNat)
    case atStart => exact ⟨0, Nat.zero_le _, rfl, HB, HFS, HK⟩
    case round =>
      clear HB HF HFS HK m0 m1 m2 m3 m4 m5 m6 m7 ml
      obtain ⟨i, hi, rfl, HB, HF, HK⟩ := hrel
      have m0 := HB.out.cell 0 _ rfl
      have m1 := HB.out.cell 1 _ rfl
      have m2 := HB.out.cell 2 _ rfl
      have m3 := HB.out.cell 3 _ rfl
      have m4 := HB.out.cell 4 _ rfl
      have m5 := HB.out.cell 5 _ rfl
      have m6 := HB.out.cell 6 _ rfl
      have m7 := HB.out.cell 7 _ rfl
      have ml := HB.out.lt
      by_cases hil : i < n
      case neg =>
        obtain rfl : i = n := by omega
        have e3 : decide (i < i) = false := decide_eq_false (by omega)
        have e4 : decide ((i : Int) < (i : Int)) = false := by simp
        have hw1 : IntKind.i64.wrap ((K : Int) + 1) = (K : Int) + 1 := IntWalk.i64_in _ (by omega)
        have HF2 : Hid (Box wr F 81 (arr4 (bfs A i s (K + 1 - 1)))) := Lib.hid (by
          have h := HF.out
          obtain ⟨K', rfl⟩ : ∃ K', K = K' + 1 := ⟨K - 1, by omega⟩
          exact h)
        clear HF
        go_wp2_with fail
        go_roundw
        case rel => exact ⟨K + 1, by omega, by omega, by go_num, HB, HF2, HK⟩
        case measure => simp [intOf]; omega
      have e3 : decide (i < n) = true := decide_eq_true (by omega)
      have e4 : decide ((i : Int) < (n : Int)) = true := by simp; omega
      have hix : i < xs.length := by have := HLN.out; omega
      have hi4 : i < 4 := by omega
      obtain ⟨g0, g1, g2⟩ := HCELL.out i hix
      replace g0 := HK.out.later g0
      replace g1 := HK.out.later g1
      replace g2 := HK.out.later g2
      have HXI := Lib.hid ((HX.out.isIn _ (List.getElem_mem hix)).keeps HK.out)
      have HXW := Lib.hid (HX.out.isIn _ (List.getElem_mem hix)).n
      have HNL := Lib.hid (HNS2.out _ (List.getElem_mem hix))
      have HAI := Lib.hid (fun j => HAD.out i j hix)
      obtain ⟨x, hx⟩ : ∃ x, x = xs[i] := ⟨_, rfl⟩
      simp only [← hx] at g0 g1 g2 HXI HXW HNL HAI
      clear hx
      obtain ⟨da, dc, hdv, -, -, -⟩ := HXI.out.d.shape
      obtain ⟨ea, ec, hev, -, -, -⟩ := HXI.out.e.shape
      obtain ⟨na, nc, hnv, hn1', hn2', hnr⟩ := HXW.out.shape
      have HNR := Lib.hid hnr
      clear hnr HXI HXW
      obtain ⟨dv, ev, nv, ds, es, ns⟩ := x
      simp only at hdv hev hnv g0 g1 g2 HNL HAI hn1' HNR
      subst hdv hev hnv
      obtain ⟨nb, nf, hnab, hncell, -⟩ := RowV.addr HNR.out (show 0 < ns.length by rw [HNL.out]; omega)
      subst hnab
      have HNC := Lib.hid hncell
      clear hncell HNR
      have HNSN : Hid (ns.length = n) := Lib.hid HNL.out
      have hbl := World.block_lt_of_cell? _ _ g0
      simp only at hbl
      have hfl := HF.out.lt
      go_wp2_with fail
      have HB2 := Lib.hid (HB.out.next (.cells #[.slice da ds.length dc, .slice ea es.length ec, .slice (some ⟨nb, nf, none⟩) ns.length nc] 71))
      have HF2 := Lib.hid (HF.out.next (.cells #[.slice da ds.length dc, .slice ea es.length ec, .slice (some ⟨nb, nf, none⟩) ns.length nc] 71))
      have HK2 := Lib.hid (HK.out.alloc (.cells #[.slice da ds.length dc, .slice ea es.length ec, .slice (some ⟨nb, nf, none⟩) ns.length nc] 71))
      go_loopw [56] (fun v wr => ∃ j : Nat, j ≤ n ∧ v = .int .i64 j ∧ Hid (Box wr w.heap.size 25 #[.int .i64 no, .int .i64 sl, .int .i64 ga, .int .i64 wi, .int .i64 dr, .int .i64 de, .slice ca cs.length cc, .slice (some ⟨sb, so, none⟩) n mc]) ∧ Hid (Box wr F 81 (arr4 (stf A (bfs A n s (K - 1)) K i j))) ∧ Hid (Keeps w wr)) (fun v _ => n - (intOf v).toNat)
      case atStart => exact ⟨0, Nat.zero_le _, rfl, HB2, HF2, HK2⟩
      case round =>
        clear HB HF HK HB2 HF2 HK2 m0 m1 m2 m3 m4 m5 m6 m7 ml g0 g1 g2 hbl hfl
        obtain ⟨j, hj, rfl, HB, HF, HK⟩ := hrel
        have m0 := HB.out.cell 0 _ rfl
        have m1 := HB.out.cell 1 _ rfl
        have m2 := HB.out.cell 2 _ rfl
        have m3 := HB.out.cell 3 _ rfl
        have m4 := HB.out.cell 4 _ rfl
        have m5 := HB.out.cell 5 _ rfl
        have m6 := HB.out.cell 6 _ rfl
        have m7 := HB.out.cell 7 _ rfl
        have ml := HB.out.lt
        by_cases hjl : j < n
        case neg =>
          obtain rfl : j = n := by omega
          have e5 : decide (j < ns.length) = false := decide_eq_false (by have := HNSN.out; omega)
          have e6 : decide ((j : Int) < (ns.length : Int)) = false := decide_eq_false (by have := HNSN.out; omega)
          have HF2 : Hid (Box wr F 81 (arr4 (stf A (bfs A j s (K - 1)) K (i + 1) 0))) := Lib.hid (by
            rw [← stf_row A _ K i j (HAO2.out i)]
            exact HF.out)
          clear HF
          go_wp2_with fail
          go_roundw
          case rel => exact ⟨i + 1, by omega, by go_num, HB, HF2, HK⟩
          case measure => simp [intOf]; omega
        have e5 : decide (j < ns.length) = true := decide_eq_true (by have := HNSN.out; omega)
        have e6 : decide ((j : Int) < (ns.length : Int)) = true := decide_eq_true (by have := HNSN.out; omega)
        have hj4 : j < 4 := by omega
        have hjn : j < ns.length := by have := HNSN.out; omega
        have hnj0 := HNC.out j hjn
        rw [List.getElem?_map, List.getElem?_eq_getElem hjn] at hnj0
        have haij : A i j = ns[j] := by rw [HAI.out j, List.getD_eq_getElem?_getD, List.getElem?_eq_getElem hjn]; rfl
        obtain ⟨b, hb⟩ : ∃ b, b = ns[j] := ⟨_, rfl⟩
        rw [← hb] at haij
        have hnj := HK.out.later (v := .bool b) (by rw [hnj0, hb]; rfl)
        clear hb hnj0
        have hci := HF.out.cell i _ (arr4_get _ i hi4)
        have hcj := HF.out.cell j _ (arr4_get _ j hj4)
        have hff := HF.out.frozen
        have hfl := HF.out.lt
        have HNO := Lib.hid (stf_no A (bfs A n s (K - 1)) hK1 i j)
        have HYES := Lib.hid (stf_yes A (bfs A n s (K - 1)) hK1 i j)
        rw [haij] at HNO HYES
        obtain ⟨G, hG⟩ : ∃ G, G = stf A (bfs A n s (K - 1)) K i j := ⟨_, rfl⟩
        rw [← hG] at hci hcj HNO HYES HF
        obtain ⟨G2, hG2⟩ : ∃ G2, G2 = stf A (bfs A n s (K - 1)) K i (j + 1) := ⟨_, rfl⟩
        have HG2 := Lib.hid hG2
        rw [← hG2] at HNO HYES
        clear hG hG2 haij
        have hw1 : IntKind.i64.wrap ((K : Int) + 1) = (K : Int) + 1 := IntWalk.i64_in _ (by omega)
        obtain ⟨gi, hgi⟩ : ∃ gi, gi = G i := ⟨_, rfl⟩
        obtain ⟨gj, hgj⟩ : ∃ gj, gj = G j := ⟨_, rfl⟩
        rw [← hgi] at hci HNO HYES
        rw [← hgj] at hcj HNO HYES
        clear hgi hgj
        have hnb := World.block_lt_of_cell? _ _ hnj
        cases b
        · have HQ : Hid (Box wr F 81 (arr4 G2)) := Lib.hid (by rw [HNO.out (fun h => by cases h.1)]; exact HF.out)
          rw [HG2.out] at HQ
          clear HNO HYES HG2 HF
          go_wp2_with fail
          go_roundw
          case rel => exact ⟨j + 1, by omega, by go_num, HB, HQ, HK⟩
          case measure => simp [intOf]; omega
        by_cases h1 : gi = K
        case neg =>
          have d1 : ((gi : Int) == (K : Int)) = false := by rw [beq_eq_false_iff_ne]; omega
          have d2 : (gi == K) = false := by rw [beq_eq_false_iff_ne]; exact h1
          have HQ : Hid (Box wr F 81 (arr4 G2)) := Lib.hid (by rw [HNO.out (fun h => h1 h.2.1)]; exact HF.out)
          rw [HG2.out] at HQ
          clear HNO HYES HG2 HF h1
          go_wp2_with fail
          go_roundw
          case rel => exact ⟨j + 1, by omega, by go_num, HB, HQ, HK⟩
          case measure => simp [intOf]; omega
        have d1 : ((gi : Int) == (K : Int)) = true := by rw [beq_iff_eq]; omega
        have d2 : (gi == K) = true := by rw [beq_iff_eq]; exact h1
        by_cases h2 : gj = 0
        case neg =>
          have d3 : ((gj : Int) == 0) = false := by rw [beq_eq_false_iff_ne]; omega
          have d4 : (gj == 0) = false := by rw [beq_eq_false_iff_ne]; exact h2
          have HQ : Hid (Box wr F 81 (arr4 G2)) := Lib.hid (by rw [HNO.out (fun h => h2 h.2.2)]; exact HF.out)
          rw [HG2.out] at HQ
          clear HNO HYES HG2 HF h1 h2
          go_wp2_with fail
          go_roundw
          case rel => exact ⟨j + 1, by omega, by go_num, HB, HQ, HK⟩
          case measure => simp [intOf]; omega
        have d3 : ((gj : Int) == 0) = true := by rw [beq_iff_eq]; omega
        have d4 : (gj == 0) = true := by rw [beq_iff_eq]; exact h2
        have HQ : Hid (Box (wr.setCell ⟨F, j, none⟩ (.int .i64 ((K + 1 : Nat) : Int))) F 81 (arr4 G2)) := Lib.hid (Box.put4 HF.out j (K + 1) hj4 (HYES.out rfl h1 h2))
        rw [HG2.out] at HQ
        have HQ2 : Hid (Box (wr.setCell ⟨F, j, none⟩ (.int .i64 ((K : Int) + 1))) F 81 (arr4 (stf A (bfs A n s (K - 1)) K i (j + 1)))) := Lib.hid (by
          have h := HQ.out
          rw [show ((K + 1 : Nat) : Int) = (K : Int) + 1 by omega] at h
          exact h)
        clear HNO HYES HG2 HQ h1 h2
        go_wp2_with fail
        go_roundw
        case rel => exact ⟨j + 1, by omega, by go_num, Lib.hid (HB.out.keepsBut (KeepsBut.setCell _ F j (.int .i64 ((K : Int) + 1))) (by omega)), HQ2, Lib.hid (HK.out.setCell (show w.heap.size ≤ F by omega) (p := ⟨F, j, none⟩) _)⟩
        case measure => simp [intOf]; omega
end Go.Proofs.Ytmjodcackmjllaa
