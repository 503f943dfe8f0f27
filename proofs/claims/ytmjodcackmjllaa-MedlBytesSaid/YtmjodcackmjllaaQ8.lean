/- The reference's Bytes. -/
import Derived.Test.YtmjodcackmjllaaQ7
import Derived.Test.YtmjodcackmjllaaM10
import Derived.Deep.RegionHeld3
import Derived.Deep.DeepCutAuto
namespace Go.Proofs.Ytmjodcackmjllaa
open Go.RowKit
set_option linter.unusedVariables false
set_option linter.unusedSimpArgs false
set_option maxRecDepth 100000 in
set_option maxHeartbeats 4000000 in
theorem rbytes_any (m : RMedl) (w : World) (hm : m.In w) :
    Calls Try.prog 50 #[m.val] w fun e w' => ∃ v, e = .returned (.tuple #[v, .int .i64 (medlErr m)]) ∧ Own w' w.heap.size 5 v (u8s (bytesRes m)) ∧ Keeps w w' := by
  cases hok : medlOk m
  · have hE := medlErr_70 hok
    have hR : bytesRes m = [] := by unfold bytesRes; rw [hok]; rfl
    rw [hR, hE]
    have HC := Lib.hid (rmcheck_any m (w.alloc (.cells #[.int .i64 m.nodes, .int .i64 m.slot, .int .i64 m.gap, .int .i64 m.window, .int .i64 m.drift, .int .i64 m.delay, m.cv, .slice m.ma m.mn m.mc] 25)) (hm.keeps ((Keeps.refl w).alloc _)))
    obtain ⟨ca, cc, hcv, -, -, -⟩ := hm.c.shape
    rw [hE] at HC
    obtain ⟨no, sl, ga, wi, dr, de, cv, cs, ma, mn, mc, xs⟩ := m
    simp only at hcv HC
    clear hE hR hok hm
    subst hcv
    show Calls Try.prog 50 #[.agg #[.int .i64 no, .int .i64 sl, .int .i64 ga, .int .i64 wi, .int .i64 dr, .int .i64 de, .slice ca cs.length cc, .slice ma mn mc]] w _
    have HK := Lib.hid ((Keeps.refl w).alloc (.cells #[.int .i64 no, .int .i64 sl, .int .i64 ga, .int .i64 wi, .int .i64 dr, .int .i64 de, .slice ca cs.length cc, .slice ma mn mc] 25))
    go_enter Try.func50, Try.ntmps50
    go_wp2_with fail
    with_reducible refine HC.out.mono ?_
    rintro e w1 ⟨rfl, hk1⟩
    have HK1 := Lib.hid (HK.out.trans hk1)
    clear hk1 HC HK
    go_wp2_with fail
    go_ret2
    exact ⟨_, rfl, Own.nil _ _ _, HK1.out⟩
  have hF := medlOk_fit hok
  have hE := medlErr_yes hok
  have hR : bytesRes m = medlBytes m := by unfold bytesRes; rw [hok]; rfl
  rw [hR, hE]
  clear hR hok
  have HM := Lib.hid hm
  obtain ⟨Bd, hBd⟩ : ∃ Bd : Nat → List Nat, Bd = bodyTo m := ⟨_, rfl⟩
  have HB0 := Lib.hid ((congrFun hBd 0).trans (bodyTo_zero m))
  have HBS : Hid (∀ k, (h : k < m.xs.length) → Bd (k + 1) = ((Bd k ++ ones m.xs[k].ds m.xs[k].ds.length) ++ [truTo m.xs[k].es m.xs[k].es.length]) ++ [truTo m.xs[k].ns m.xs[k].ns.length]) := Lib.hid (by rw [hBd]; exact bodyTo_succ m)
  have HBL : Hid (∀ k, k ≤ m.xs.length → (Bd k).length ≤ 58) := Lib.hid (fun k hk => by
    rw [hBd, bodyTo_len hF k hk]
    have := hF.n2; have := hF.x2
    have : k * (m.nodes.toNat + 2) ≤ 4 * 10 := Nat.mul_le_mul (by omega) (by omega)
    omega)
  have HBY : Hid (∀ x ∈ Bd m.xs.length, x < 256) := Lib.hid (by rw [hBd]; exact bodyTo_lt hF _)
  have HRES : Hid (medlBytes m = Bd m.xs.length ++ ones [(sumN (Bd m.xs.length) : Int) / 65536, (sumN (Bd m.xs.length) : Int) / 256, (sumN (Bd m.xs.length) : Int)] 3) := Lib.hid (by rw [hBd]; rfl)
  have HD : Hid (∀ k, (h : k < m.xs.length) → m.xs[k].ds.length ≤ 8 ∧ m.xs[k].es.length ≤ 8 ∧ m.xs[k].ns.length ≤ 8) := Lib.hid (fun k h => by
    obtain ⟨d1, d2, d3, -⟩ := hF.d _ (List.getElem_mem h)
    have := hF.n2; have := hF.x2
    omega)
  have hcs8 : m.cs.length ≤ 8 := by have := hF.n2; have := hF.c; omega
  have hx4 := hF.x2
  obtain ⟨s1, s2⟩ := hF.slot
  obtain ⟨g1, g2⟩ := hF.gap
  obtain ⟨q1, q2⟩ := hF.window
  clear hBd hF
  have HC := Lib.hid (rmcheck_any m (w.alloc (.cells #[.int .i64 m.nodes, .int .i64 m.slot, .int .i64 m.gap, .int .i64 m.window, .int .i64 m.drift, .int .i64 m.delay, m.cv, .slice m.ma m.mn m.mc] 25)) (hm.keeps ((Keeps.refl w).alloc _)))
  obtain ⟨ca, cc, hcv, -, -, -⟩ := hm.c.shape
  rw [hE] at HC
  clear hE hm
  obtain ⟨R, hRR⟩ : ∃ R, R = medlBytes m := ⟨_, rfl⟩
  rw [← hRR] at HRES ⊢
  clear hRR
  have HMC := Lib.hid HM.out.c
  have HX := Lib.hid HM.out.m
  clear HM
  obtain ⟨no, sl, ga, wi, dr, de, cv, cs, ma, mn, mc, xs⟩ := m
  simp only [headB] at hcv HC HB0 HBS HBL HBY HRES HD hcs8 hx4 s1 s2 g1 g2 q1 q2 HMC HX
  subst hcv
  have hlen := HX.out.len
  subst hlen
  obtain ⟨S, rfl⟩ : ∃ S : Nat, sl = (S : Int) := ⟨sl.toNat, by omega⟩
  obtain ⟨G, rfl⟩ : ∃ G : Nat, ga = (G : Int) := ⟨ga.toNat, by omega⟩
  obtain ⟨W, rfl⟩ : ∃ W : Nat, wi = (W : Int) := ⟨wi.toNat, by omega⟩
  simp only [Int.toNat_natCast] at HB0
  have hcap := HX.out.hcap
  have hmax := HX.out.hmax
  show Calls Try.prog 50 #[.agg #[.int .i64 no, .int .i64 S, .int .i64 G, .int .i64 W, .int .i64 dr, .int .i64 de, .slice ca cs.length cc, .slice ma xs.length mc]] w _
  have HK := Lib.hid ((Keeps.refl w).alloc (.cells #[.int .i64 no, .int .i64 S, .int .i64 G, .int .i64 W, .int .i64 dr, .int .i64 de, .slice ca cs.length cc, .slice ma xs.length mc] 25))
  have HBX := Lib.hid (Box.new w 25 #[.int .i64 no, .int .i64 S, .int .i64 G, .int .i64 W, .int .i64 dr, .int .i64 de, .slice ca cs.length cc, .slice ma xs.length mc])
  go_enter Try.func50, Try.ntmps50
  go_wp2_with fail
  with_reducible refine HC.out.mono ?_
  rintro e w1 ⟨rfl, hk1⟩
  have HK1 := Lib.hid (HK.out.trans hk1)
  have HM1 := Lib.hid (HBX.out.keeps hk1)
  clear hk1 HC HK HBX

  have hm0 := HM1.out.cell 0 _ rfl
  have hm7 := HM1.out.cell 7 _ rfl
  have hml := HM1.out.lt
  have HG0 : Hid (Gw w1 (w1.alloc (.cells #[.int .u8 77, .int .u8 (no % 256), .int .u8 xs.length] 5)) (.slice (some ⟨w1.heap.size, 0, none⟩) 3 3) ([] ++ ones [77, no, (xs.length : Int)] 3) []) := Lib.hid ⟨(Keeps.refl w1).alloc _, own_lit _ _ _ _ _ _ (Box.new w1 5 _) (by simp [u8s, ones]; omega) (by simp [ones]) (Nat.le_refl _) (by simp [ones]), by simp⟩
  go_upto_region 5 with fail
  obtain ⟨X, hX⟩ : ∃ X, X = w1.alloc (.cells #[.int .u8 77, .int .u8 (no % 256), .int .u8 xs.length] 5) := ⟨_, rfl⟩
  rw [← hX] at HG0 ⊢
  clear hX hm0 hm7
  go_cut [5] (fun v wx => Hid (Gw w1 wx v (((([] ++ ones [77, no, (xs.length : Int)] 3) ++ be4 S) ++ be4 G) ++ be4 W) []))
  case first =>
    clear HBS HBL HBY HRES HD HX HB0 HMC HK1
    have HG := Lib.hid (HG0.out.keep (Keeps.refl X).drew)
    clear HG0
    go_region_held3 (fun w' => w'.cell? ⟨w.heap.size, 1, none⟩ = some (.int .i64 S) ∧ w'.cell? ⟨w.heap.size, 2, none⟩ = some (.int .i64 G) ∧ w'.cell? ⟨w.heap.size, 3, none⟩ = some (.int .i64 W))
      ((exact ⟨((HM1).out.keeps HG.out.keeps).cell 1 _ rfl, ((HM1).out.keeps HG.out.keeps).cell 2 _ rfl, ((HM1).out.keeps HG.out.keeps).cell 3 _ rfl⟩))
      (first
        | (go_at_call 91; (with_reducible refine (num4_any S _ (by omega)).mono ?_); rintro e u ⟨rfl, hb, hk⟩; replace HG := Lib.hid (HG.out.call hk hb (Nat.le_refl _)); clear hb hk)
        | (go_at_call 91; (with_reducible refine (num4_any G _ (by omega)).mono ?_); rintro e u ⟨rfl, hb, hk⟩; replace HG := Lib.hid (HG.out.call hk hb (Nat.le_refl _)); clear hb hk)
        | (go_at_call 91; (with_reducible refine (num4_any W _ (by omega)).mono ?_); rintro e u ⟨rfl, hb, hk⟩; replace HG := Lib.hid (HG.out.call hk hb (Nat.le_refl _)); clear hb hk)
        | (refine step_appG (k := be4 S) rfl (.tmp 22) (.tmp 25) rfl (by rfl) (by rfl) (by exact HG.out) (by first | exact List.mem_cons_self | exact List.mem_cons_of_mem _ List.mem_cons_self | exact List.mem_cons_of_mem _ (List.mem_cons_of_mem _ List.mem_cons_self)) (by rfl) (by simp [ones, fours, be4]) ?_; intro v' u hG hgr; replace HG := Lib.hid hG; clear hG hgr)
        | (refine step_appG (k := be4 G) rfl (.tmp 26) (.tmp 29) rfl (by rfl) (by rfl) (by exact HG.out) (by first | exact List.mem_cons_self | exact List.mem_cons_of_mem _ List.mem_cons_self | exact List.mem_cons_of_mem _ (List.mem_cons_of_mem _ List.mem_cons_self)) (by rfl) (by simp [ones, fours, be4]) ?_; intro v' u hG hgr; replace HG := Lib.hid hG; clear hG hgr)
        | (refine step_appG (k := be4 W) rfl (.tmp 30) (.tmp 33) rfl (by rfl) (by rfl) (by exact HG.out) (by first | exact List.mem_cons_self | exact List.mem_cons_of_mem _ List.mem_cons_self | exact List.mem_cons_of_mem _ (List.mem_cons_of_mem _ List.mem_cons_self)) (by rfl) (by simp [ones, fours, be4]) ?_; intro v' u hG hgr; replace HG := Lib.hid hG; clear hG hgr))
    all_goals
      go_wp2_with fail
      go_meet
      exact Lib.hid HG.out.less
  case rest =>
    have HL6 : Hid ((((([] ++ ones [77, no, (xs.length : Int)] 3) ++ be4 S) ++ be4 G) ++ be4 W) ++ (ones [dr, de] 2 ++ [truTo cs cs.length]) = Bd 0) := Lib.hid (by rw [HB0.out]; simp [fours, List.append_assoc])
    have hlit6 : (#[.int .u8 (dr % 256), .int .u8 (de % 256), .int .u8 (truTo cs cs.length : Nat)] : Array Value) = (u8s (ones [dr, de] 2 ++ [truTo cs cs.length])).toArray := by simp [u8s, ones]; omega
    have HLIT6 := Lib.hid hlit6
    clear HG0 HB0 hlit6
    go_upto_region 6 with fail
    go_cut [5] (fun v wx => Hid (Gw w1 wx v (Bd 0) []))
    case first =>
      clear HBS HBL HBY HRES HD HX
      have HG := Lib.hid (hcut.out.keep (Keeps.refl wc).drew)
      clear hcut
      go_region_held3 (fun w' => w'.cell? ⟨w.heap.size, 4, none⟩ = some (.int .i64 dr) ∧ w'.cell? ⟨w.heap.size, 5, none⟩ = some (.int .i64 de) ∧ w'.cell? ⟨w.heap.size, 6, none⟩ = some (.slice ca cs.length cc))
        ((first | exact ⟨((HM1).out.keeps HG.out.keeps).cell 4 _ rfl, ((HM1).out.keeps HG.out.keeps).cell 5 _ rfl, ((HM1).out.keeps HG.out.keeps).cell 6 _ rfl⟩ | exact ⟨(((HM1).out.keeps HG.out.keeps).keeps ((Keeps.refl _).alloc _)).cell 4 _ rfl, (((HM1).out.keeps HG.out.keeps).keeps ((Keeps.refl _).alloc _)).cell 5 _ rfl, (((HM1).out.keeps HG.out.keeps).keeps ((Keeps.refl _).alloc _)).cell 6 _ rfl⟩))
        (first
          | (go_at_call 92; (with_reducible refine (rtruths_any _ cs _ (by exact HMC.out.keeps (HK1.out.trans HG.out.keeps)) hcs8).mono ?_); rintro e u ⟨rfl, rfl⟩)
          | (refine step_appG (k := ones [dr, de] 2 ++ [truTo cs cs.length]) rfl (.tmp 35) (.tmp 45) rfl (by rfl) (by rfl) (by exact HG.out.lit _ _ HLIT6.out) (by first | exact List.mem_cons_self | exact List.mem_cons_of_mem _ List.mem_cons_self | exact List.mem_cons_of_mem _ (List.mem_cons_of_mem _ List.mem_cons_self)) (by rfl) (by simp [ones, fours, be4]) ?_; intro v' u hG hgr; replace HG := Lib.hid hG; clear hG hgr))
      all_goals
        go_wp2_with fail
        go_meet
        exact Lib.hid (by rw [← HL6.out]; exact HG.out.less)
    case rest =>
      clear HL6 HLIT6
      have HGC := Lib.hid hcut.out
      clear hcut
      go_upto_region 8 with fail
      go_loopw [5, 6] (fun v i wr => ∃ k : Nat, k ≤ xs.length ∧ i = .int .i64 k ∧ Hid (Gw w1 wr v (Bd k) [])) (fun _ i _ => xs.length - (intOf i).toNat)
      case atStart => exact ⟨0, by omega, rfl, HGC⟩
      case round =>
        clear HGC
        obtain ⟨k, hk, rfl, HG⟩ := hrel
        have hl58 := HBL.out k hk
        have hm7 := (HM1.out.keeps HG.out.keeps).cell 7 _ rfl
        have hml := (HM1.out.keeps HG.out.keeps).lt
        have hszr := HG.out.keeps.size
        by_cases hlt : k < xs.length
        · obtain ⟨b, off, rfl, hcell⟩ := HX.out.addr (by omega)
          obtain ⟨hc0, hc1, hc2⟩ := hcell k hlt
          replace hc0 := HG.out.keeps.later (HK1.out.later hc0)
          replace hc1 := HG.out.keeps.later (HK1.out.later hc1)
          replace hc2 := HG.out.keeps.later (HK1.out.later hc2)
          have HI := Lib.hid (HX.out.isIn _ (List.getElem_mem hlt))
          have HS := Lib.hid (HBS.out k hlt)
          obtain ⟨hd8, he8, hn8⟩ := HD.out k hlt
          clear hcell
          obtain ⟨x, hx⟩ : ∃ x, x = xs[k] := ⟨_, rfl⟩
          rw [← hx] at hc0 hc1 hc2 HI HS hd8 he8 hn8
          clear hx
          obtain ⟨xd, xe, xn, ds, es, ns⟩ := x
          have HDD := Lib.hid HI.out.d
          have HEE := Lib.hid HI.out.e
          have HNN := Lib.hid HI.out.n
          clear HI
          simp only at hc0 hc1 hc2 HDD HEE HNN HS hd8 he8 hn8
          obtain ⟨da, dc, rfl, -, -, hdr⟩ := HDD.out.shape
          obtain ⟨ea, ec, rfl, -, -, -⟩ := HEE.out.shape
          obtain ⟨na, nc, rfl, -, -, -⟩ := HNN.out.shape
          have HDR := Lib.hid hdr
          clear hdr HDD
          have hown5 : Value.ownBlock u5 ≠ some wr.heap.size := fun e => by have := (HG.out.own.lt _ e).2; omega
          have HB := Lib.hid (Box.new wr 71 #[.slice da ds.length dc, .slice ea es.length ec, .slice na ns.length nc])
          have HGX := Lib.hid (HG.out.keep ((Keeps.refl wr).alloc (.cells #[.slice da ds.length dc, .slice ea es.length ec, .slice na ns.length nc] 71)))
          have HOW := Lib.hid hown5
          clear hown5
          go_upto_region 12 with fail
          obtain ⟨Z, hZ⟩ : ∃ Z, Z = wr.heap.size := ⟨_, rfl⟩
          rw [← hZ] at HB HOW hszr ⊢
          have hZw : ¬ Z = w.heap.size := by have := HM1.out.lt; omega
          clear hm7 hml hc0 hc1 hc2 HG hZ
          go_loopw [5, 8] (fun v i ws => ∃ j : Nat, j ≤ ds.length ∧ i = .int .i64 j ∧ Hid (Gw w1 ws v (Bd k ++ ones ds j) []) ∧ Hid (Box ws Z 71 #[.slice da ds.length dc, .slice ea es.length ec, .slice na ns.length nc]) ∧ Hid (v.ownBlock ≠ some Z)) (fun _ i _ => ds.length - (intOf i).toNat)
          case atStart => exact ⟨0, by omega, rfl, by simpa [ones] using HGX, HB, HOW⟩
          case round =>
            clear HGX HB HOW
            obtain ⟨j, hj, rfl, HG, HB, HOW⟩ := hrel
            have hb0 := HB.out.cell 0 _ rfl
            have hbl := HB.out.lt
            have hlj := ones_len ds j hj
            by_cases hjlt : j < ds.length
            · obtain ⟨b2, off2, rfl, hdc, -⟩ := HDR.out.addr (by omega)
              have hdcell := HG.out.keeps.later (HK1.out.later ((hdc j (by omega)).trans (show (ds.map (Value.int .i64))[j]? = some (.int .i64 ds[j]) by simp [hjlt])))
              have HSJ := Lib.hid (ones_succ ds j hjlt)
              clear hdc
              obtain ⟨d, hd⟩ : ∃ d, d = ds[j] := ⟨_, rfl⟩
              rw [← hd] at hdcell HSJ
              clear hd
              have hlit : (#[.int .u8 (d % 256)] : Array Value) = (u8s [(d % 256).toNat]).toArray := by simp [u8s]; omega
              have HLIT := Lib.hid hlit
              clear hlit
              go_wp2_with (refine wpList_appG (k := [(d % 256).toNat]) rfl (.tmp 66) (.tmp 73) rfl (by rfl) (by rfl) (by exact HG.out.lit _ _ HLIT.out) (by first | exact List.mem_cons_self | exact List.mem_cons_of_mem _ List.mem_cons_self | exact List.mem_cons_of_mem _ (List.mem_cons_of_mem _ List.mem_cons_self)) (by rfl) (by simp only [List.length_append, hlj, List.length_cons, List.length_nil]; omega) ?hmain)
              case hmain =>
                intro v' w2 hG hgr
                obtain ⟨hbx, how⟩ := (hgr w.heap.size).box (HB.out.next (.cells #[.int .u8 (d % 256)] 5)) hZw HOW.out
                have HG2 : Hid (Gw w1 w2 v' (Bd k ++ ones ds (j + 1)) []) := Lib.hid (by rw [HSJ.out]; exact hG.less)
                have HB2 := Lib.hid hbx
                have HOW2 := Lib.hid how
                clear hG hgr hbx how HG HB HOW hb0 hdcell
                go_wp2_with fail
                go_roundw
                case rel => exact ⟨j + 1, by omega, by go_num, HG2, HB2, HOW2⟩
                case measure => simp [intOf]; omega
            · obtain rfl : j = ds.length := by omega
              have HLS : Hid (Bd (k + 1) = (Bd k ++ ones ds ds.length) ++ ([truTo es es.length] ++ [truTo ns ns.length])) := Lib.hid (by rw [HS.out]; simp [List.append_assoc])
              have HLIT : Hid ((#[.int .u8 (truTo es es.length : Nat), .int .u8 (truTo ns ns.length : Nat)] : Array Value) = (u8s ([truTo es es.length] ++ [truTo ns ns.length])).toArray) := Lib.hid (by simp [u8s])
              have HKE := Lib.hid (HEE.out.keeps (HK1.out.trans (HG.out.keeps.trans (Keeps.refl _).drew)))
              have HKN := Lib.hid (HNN.out.keeps (HK1.out.trans (HG.out.keeps.trans (Keeps.refl _).drew)))
              go_upto_region 15 with fail
              clear HBS HBL HBY HRES HX hb0
              replace HG := Lib.hid (HG.out.keep (Keeps.refl _).drew)
              go_region_held3 (fun w' => w'.cell? ⟨Z, 1, none⟩ = some (.slice ea es.length ec) ∧ w'.cell? ⟨Z, 2, none⟩ = some (.slice na ns.length nc))
                ((first | exact ⟨HBU.out.cell 1 _ rfl, HBU.out.cell 2 _ rfl⟩ | exact ⟨(HB.out.keeps (Keeps.refl _).drew).cell 1 _ rfl, (HB.out.keeps (Keeps.refl _).drew).cell 2 _ rfl⟩ | exact ⟨((HB.out.keeps (Keeps.refl _).drew).next _).cell 1 _ rfl, ((HB.out.keeps (Keeps.refl _).drew).next _).cell 2 _ rfl⟩))
                (first
                  | (go_at_call 92; (with_reducible refine (rtruths_any _ es _ (by exact HKE.out) he8).mono ?_); rintro e u ⟨rfl, rfl⟩)
                  | (go_at_call 92; (with_reducible refine (rtruths_any _ ns _ (by exact HKN.out) hn8).mono ?_); rintro e u ⟨rfl, rfl⟩)
                  | (refine step_appG (k := [truTo es es.length] ++ [truTo ns ns.length]) rfl (.tmp 75) (.tmp 82) rfl (by rfl) (by rfl) (by exact HG.out.lit _ _ HLIT.out) (by first | exact List.mem_cons_self | exact List.mem_cons_of_mem _ List.mem_cons_self | exact List.mem_cons_of_mem _ (List.mem_cons_of_mem _ List.mem_cons_self)) (by rfl) (by simp only [List.length_append, hlj, List.length_cons, List.length_nil]; omega) ?_; intro v' u hG hgr; have HBU := Lib.hid ((hgr w.heap.size).box ((HB.out.keeps (Keeps.refl _).drew).next _) hZw HOW.out).1; replace HG := Lib.hid hG; clear hG hgr))
              all_goals
                go_wp2_with fail
                go_roundw
                case rel => exact ⟨k + 1, by omega, by go_num, by rw [HLS.out]; exact Lib.hid HG.out.less⟩
                case measure => simp [intOf]; omega
        · obtain rfl : k = xs.length := by omega
          clear HBS HBL HD HX
          obtain ⟨L, hL⟩ : ∃ L, Bd xs.length = L := ⟨_, rfl⟩
          rw [hL] at HG HBY HRES hl58
          clear hL
          obtain ⟨ad, cp, hv, hcp1, hcp2, hrow⟩ := HG.out.own.shape
          rw [u8s_len] at hv hcp1 hrow
          subst hv
          have HRW := Lib.hid hrow
          clear hrow
          go_wp2_with fail
          with_reducible refine (rsum7_any ad cp L _ (by exact HRW.out) hcp1 hcp2 (by omega) HBY.out).mono ?_
          rintro e w2 ⟨g, rfl, hg, hbx, hk2⟩
          have HG2 := Lib.hid (HG.out.call hk2 hbx hg)
          clear hm7 hml HRW hg hbx hk2 HG
          go_wp2_with (refine wpList_appG rfl (.tmp 84) (.tmp 86) rfl (by rfl) (by rfl) (by exact HG2.out) (by exact List.mem_cons_self) (by rfl) (by simp [ones]; omega) ?hmain)
          case hmain =>
            intro v' w3 hG hgr
            rw [← HRES.out] at hG
            have HG3 := Lib.hid hG.less
            clear hG hgr HG2
            go_wp2_with fail
            refine bodyPost_ret (v := .tuple #[v', .int .i64 0]) (by simp [results, Try.results50, go_sem, *]) rfl ⟨v', rfl, HG3.out.own.mono HK1.out.size, HK1.out.trans HG3.out.keeps⟩
end Go.Proofs.Ytmjodcackmjllaa
