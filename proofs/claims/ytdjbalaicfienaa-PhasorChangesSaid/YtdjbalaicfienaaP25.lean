/- The walks of layer 3, 18: the reference's Add. -/
import Derived.Test.YtdjbalaicfienaaP23
import Derived.BigRegion
import Derived.Test.YtdjbalaicfienaaQTail
namespace Go.Proofs.Ytdjbalaicfienaa
open Go.RowKit
set_option linter.unusedVariables false
set_option linter.unusedSimpArgs false
theorem OwnP.some {w : World} {base : Nat} {v : Value} {xs : List Smp} (h : OwnP w base v xs) (h0 : 0 < xs.length) : ∃ g c, v = .slice (Option.some ⟨g, 0, none⟩) xs.length c ∧ base ≤ g ∧ g < w.heap.size ∧ ∀ j, w.frozen? ⟨g, j, none⟩ = false := by
  rcases h.2 with ⟨hv, hn⟩ | ⟨g, cap, cur, hv, hbg, hg, hn, hm, hs, ht⟩
  · omega
  · exact ⟨g, cap, hv, hbg, (h.lt g (by subst hv; rfl)).2, fun j => by simp [World.frozen?, hg]⟩
set_option maxRecDepth 100000 in
set_option maxHeartbeats 8000000 in
theorem radd_any (a : Option Addr) (n cap : Nat) (ls : List RS) (w : World) (hx : SRs w a n cap ls) (h50 : ls.length ≤ 50) (hN : ∀ x ∈ ls, x.xs.length ≤ 100000) :
    Calls Try.prog 51 #[.slice a n cap] w fun e w' => SRes w w' e (addRes ls) := by
  have HX := Lib.hid hx
  have hlen := hx.len
  have hcap := hx.hcap
  have hmax := hx.hmax
  subst hlen
  have HNO := Lib.hid (allRs_no ls)
  have HYES := Lib.hid (allRs_yes ls)
  have HRN := Lib.hid (addRes_no ls)
  have HRY := Lib.hid (addRes_yes ls)
  have HNN := Lib.hid hN
  obtain ⟨R, hR⟩ : ∃ R, R = addRes ls := ⟨_, rfl⟩
  rw [← hR] at HRN HRY ⊢
  have HLL := Lib.hid (longTo_le ls 100000 hN)
  clear hx hR hN
  go_enter Try.func51, Try.ntmps51
  go_wp2_with fail
  go_loopw [5] (fun i wr => ∃ k : Nat, k ≤ ls.length ∧ i = .int .i64 k ∧ Hid (∀ j (hj : j < ls.length), j < k → allB ls[j].xs = true) ∧ Hid (Keeps w wr)) (fun i _ => ls.length - (intOf i).toNat)
  case atStart => exact ⟨0, by omega, rfl, Lib.hid (fun j _ h => absurd h (by omega)), Lib.hid (Keeps.refl w)⟩
  case round =>
    obtain ⟨k, hk, rfl, HC, HK⟩ := hrel
    by_cases hlt : k < ls.length
    · obtain ⟨b, off, rfl, hbl, hcell⟩ := HX.out.addr (by omega)
      have hc := HK.out.later (hcell k hlt)
      have HC2 := Lib.hid (HNO.out k hlt)
      have HC3 : Hid (allB ls[k].xs = true → ∀ j (hj : j < ls.length), j < k + 1 → allB ls[j].xs = true) := Lib.hid (by
        intro h j hj hjk
        by_cases hjk' : j = k
        · subst hjk'; exact h
        · exact HC.out j hj (by omega))
      have HS := Lib.hid ((HX.out.row k hlt).keeps HK.out)
      obtain ⟨x, hx⟩ : ∃ x, x = ls[k]'(by omega) := ⟨_, rfl⟩
      rw [← hx] at hc HC2 HC3 HS
      obtain ⟨xa, xc, xx⟩ := x
      simp only [RS.val] at hc HC2 HC3 HS
      obtain ⟨M, hM⟩ : ∃ M, M = xx.length := ⟨_, rfl⟩
      rw [← hM] at hc HS
      clear hcell HC hx hM
      go_wp2_with fail
      with_reducible refine (mays_any xa M xc xx _ HS.out).mono ?_
      rintro e w1 ⟨rfl, hk1⟩
      replace HK := Lib.hid (HK.out.trans hk1)
      clear hk1
      cases hall : allB xx
      · have HR := Lib.hid (HRN.out (HC2.out hall))
        go_wp2_with fail
        refine bodyPost_ret (v := .tuple #[.slice none 0 0, .int .i64 31]) (by simp [results, Try.results51, go_sem, *]) rfl (SRes.no HR.out ⟨rfl, HK.out⟩)
      · have HQ := Lib.hid (HC3.out hall)
        clear HC2 HC3
        go_wp2_with fail
        go_roundw
        case rel => exact ⟨k + 1, by omega, by go_num, HQ, HK⟩
        case measure => simp [intOf]; omega
    · obtain rfl : k = ls.length := by omega
      have HALL : Hid (∀ j (hj : j < ls.length), allB ls[j].xs = true) := Lib.hid (fun j hj => HC.out j hj hj)
      have HR2 := Lib.hid (HRY.out (HYES.out HALL.out))
      clear HRN HRY HYES HNO HC hk hlt
      go_wp2_with fail
      go_loopw [4, 6] (fun v i wr => ∃ k : Nat, k ≤ ls.length ∧ i = .int .i64 k ∧ Hid (OwnP wr w.heap.size v (accS ls k 0 (longTo ls k))) ∧ Hid (Keeps w wr)) (fun _ i _ => ls.length - (intOf i).toNat)
      case atStart => exact ⟨0, by omega, rfl, Lib.hid (OwnP.nil _ _), HK⟩
      case round =>
        clear HK
        obtain ⟨k, hk, rfl, HO, HK⟩ := hrel
        by_cases hlt : k < ls.length
        · obtain ⟨b, off, rfl, hbl, hcell⟩ := HX.out.addr (by omega)
          have hcb := hcell k hlt
          have HS := Lib.hid (HX.out.row k hlt)
          have HALLK := Lib.hid (HALL.out k hlt)
          have HRO := Lib.hid (rowOf_get ls k hlt)
          have HNX := Lib.hid (HNN.out _ (List.getElem_mem hlt))
          obtain ⟨x, hx⟩ : ∃ x, x = ls[k]'(by omega) := ⟨_, rfl⟩
          rw [← hx] at hcb HS HRO HNX HALLK
          obtain ⟨xa, xc, xx⟩ := x
          simp only [RS.val] at hcb HS HRO HNX HALLK
          obtain ⟨M, hM⟩ : ∃ M, M = xx.length := ⟨_, rfl⟩
          have HM := Lib.hid hM
          rw [← hM] at hcb HS HNX
          have HCB := Lib.hid hcb
          have hLA := HLL.out k hk
          obtain ⟨A, hA⟩ : ∃ A, A = longTo ls k := ⟨_, rfl⟩
          have HA := Lib.hid hA
          rw [← hA] at HO hLA
          clear hcell hx hM hcb hA
          go_wp2_with fail
          go_loopw [4, 7] (fun v i wr => ∃ j : Nat, j ≤ M ∧ i = .int .i64 j ∧ Hid (OwnP wr w.heap.size v (accS ls k j (max A j))) ∧ Hid (Keeps w wr)) (fun _ i _ => M - (intOf i).toNat)
          case atStart => exact ⟨0, by omega, rfl, Lib.hid (by rw [Nat.max_zero]; exact HO.out), HK⟩
          case round =>
            clear HO HK
            obtain ⟨j, hj, rfl, HO, HK⟩ := hrel
            have hc := HK.out.later HCB.out
            have hMN := HNX.out
            by_cases hjl : j < M
            case neg =>
              obtain rfl : j = M := by omega
              have HO2 := HO
              rw [accS_row ls k j (max A j) (by rw [HRO.out, ← HM.out]; exact Nat.le_refl _), show max A j = longTo ls (k + 1) by simp only [longTo]; rw [HRO.out, ← HM.out, ← HA.out]] at HO2
              clear HO
              go_wp2_with fail
              go_roundw
              case rel => exact ⟨k + 1, by omega, by go_num, HO2, HK⟩
              case measure => simp [intOf]; omega
            have hjx : j < xx.length := by have := HM.out; omega
            obtain ⟨b2, off2, rfl, hbl2, hcell2⟩ := HS.out.addr (by omega)
            obtain ⟨hc0, hc1⟩ := hcell2 j hjx
            have hma := mayB_in _ (allB_get HALLK.out j hjx)
            have HXJ : Hid (colTo ls (k + 1) j = sm (colTo ls k j) xx[j]) := Lib.hid (by
              simp only [colTo]
              rw [HRO.out, List.getD_eq_getElem?_getD, List.getElem?_eq_getElem hjx]
              rfl)
            obtain ⟨x, hx⟩ : ∃ x, x = xx[j] := ⟨_, rfl⟩
            rw [← hx] at hc0 hc1 hma HXJ
            clear hx hcell2
            obtain ⟨si, sq⟩ := x
            simp only at hc0 hc1
            have HC0 := Lib.hid hc0
            have HC1 := Lib.hid hc1
            clear hc0 hc1
            have hln := accS_len ls k j (max A j)
            obtain ⟨va, vc, hv, hvc, -⟩ := HO.out.shape
            rw [hln] at hv
            subst hv
            clear hvc
            have hsz := HK.out.size
            by_cases hjA : j < A
            · have hmx : max A j = A := by omega
              rw [hmx] at HO hln ⊢
              have dG : decide (((A : Nat) : Int) ≤ (j : Int)) = false := decide_eq_false (by omega)
              clear hc
              obtain ⟨G, c', hv, hge, hGl, hfz⟩ := HO.out.some (by rw [accS_len]; omega)
              rw [accS_len] at hv
              simp only [Value.slice.injEq] at hv
              obtain ⟨rfl, -, rfl⟩ := hv
              obtain ⟨a2', c2', he, hsr, -⟩ := HO.out.shape
              simp only [Value.slice.injEq] at he
              obtain ⟨rfl, -, rfl⟩ := he
              have hAL := accS_len ls k j (A)
              obtain ⟨b3, off3, hb3, ho0, ho1⟩ := hsr.cell j (by omega)
              simp only [Option.some.injEq, Addr.mk.injEq, and_true] at hb3
              obtain ⟨rfl, rfl⟩ := hb3
              rw [accS_at] at ho0 ho1
              have hc := HK.out.later HCB.out
              have hc0 := HK.out.later HC0.out
              have hc1 := HK.out.later HC1.out
              have HSET : Hid ((accS ls k j (A)).set j (sm (colTo ls k j) ⟨si, sq⟩) = accS ls k (j + 1) (A)) := Lib.hid (by
                rw [← accS_set ls k j (A) (by omega), HXJ.out])
              have hmb := colTo_in ls HALL.out k j hk
              obtain ⟨c, hcc⟩ : ∃ c, c = colTo ls k j := ⟨_, rfl⟩
              rw [← hcc] at ho0 ho1 hmb HSET
              clear hcc hsr
              obtain ⟨ci, cq⟩ := c
              simp only [inB] at hma hmb ho0 ho1
              have w1 : IntKind.i64.wrap (ci + si) = ci + si := by simp [IntKind.wrap, IntKind.bits, IntKind.signed]; omega
              have w2 : IntKind.i64.wrap (cq + sq) = cq + sq := by simp [IntKind.wrap, IntKind.bits, IntKind.signed]; omega
              simp only [Nat.zero_add] at ho0 ho1
              go_wp2_with fail
              refine wp_region_quiet_tail_lit 32 (by kernel_rfl) (by kernel_rfl) ?_
              simp only [List.take_succ_cons, List.take_zero, List.drop_succ_cons, List.drop_zero]
              repeat (go_big_quiet_step (fail))
              refine wpQuiet_nil ?_
              rintro _ ⟨nq, rfl⟩
              have HAN := Lib.hid ((HO.out.keeps ((Keeps.refl _).drewN nq)).put hAL j (by omega) ⟨ci + si, cq + sq⟩)
              rw [show sm (⟨ci, cq⟩ : Smp) ⟨si, sq⟩ = ⟨ci + si, cq + sq⟩ from rfl] at HSET
              rw [HSET.out] at HAN
              have hmx2 : max A (j + 1) = A := by omega
              simp only at HAN
              have HKN := Lib.hid (HK.out.drewN nq)
              clear HO HSET
              go_wp2_with fail
              go_roundw
              case rel =>
                refine ⟨j + 1, by omega, by go_num, by rw [hmx2]; exact HAN, Lib.hid ?_⟩
                repeat (with_reducible refine Keeps.setCell ?_ (by first | (simp; done) | (simp; omega) | exact Nat.le_refl _ | omega) _)
                exact HKN.out
              case measure => simp [intOf]; omega
            · have hmx : max A j = j := by omega
              rw [hmx] at HO hln ⊢
              have dG : decide (((j : Nat) : Int) ≤ (j : Int)) = true := decide_eq_true (by omega)
              have HAP := Lib.hid (accS_app ls k j (by rw [← HA.out]; omega))
              go_wp2_with (refine wpList_joinP rfl _ _ rfl w.heap.size _ _ rfl (by exact HO.out.keeps ((Keeps.refl _).alloc _)) _ 1 1 [⟨0, 0⟩] rfl (by exact Box.smp (s := ⟨0, 0⟩) (Box.new _ _ _)) (by rw [hln]; omega) (by simp; omega) ?hmain)
              case hmain =>
                intro v' w5 hown hg
                rw [HAP.out] at hown
                have HO5 := Lib.hid hown
                have HK5 : Hid (Keeps w w5) := Lib.hid (hg.keeps (HK.out.alloc _) (fun k hk => (HO.out.lt k hk).1))
                clear hown hg HO HK HAP hc hln hmx dG
                obtain ⟨G, c', hv, hge, hGl, hfz⟩ := HO5.out.some (by rw [accS_len]; omega)
                rw [accS_len] at hv
                subst hv
                obtain ⟨a2', c2', he, hsr, -⟩ := HO5.out.shape
                simp only [Value.slice.injEq] at he
                obtain ⟨rfl, -, rfl⟩ := he
                have hAL := accS_len ls k j (j + 1)
                obtain ⟨b3, off3, hb3, ho0, ho1⟩ := hsr.cell j (by omega)
                simp only [Option.some.injEq, Addr.mk.injEq, and_true] at hb3
                obtain ⟨rfl, rfl⟩ := hb3
                rw [accS_at] at ho0 ho1
                have hc := HK5.out.later HCB.out
                have hc0 := HK5.out.later HC0.out
                have hc1 := HK5.out.later HC1.out
                have HSET : Hid ((accS ls k j (j + 1)).set j (sm (colTo ls k j) ⟨si, sq⟩) = accS ls k (j + 1) (j + 1)) := Lib.hid (by
                  rw [← accS_set ls k j (j + 1) (by omega), HXJ.out])
                have hmb := colTo_in ls HALL.out k j hk
                obtain ⟨c, hcc⟩ : ∃ c, c = colTo ls k j := ⟨_, rfl⟩
                rw [← hcc] at ho0 ho1 hmb HSET
                clear hcc hsr
                obtain ⟨ci, cq⟩ := c
                simp only [inB] at hma hmb ho0 ho1
                have w1 : IntKind.i64.wrap (ci + si) = ci + si := by simp [IntKind.wrap, IntKind.bits, IntKind.signed]; omega
                have w2 : IntKind.i64.wrap (cq + sq) = cq + sq := by simp [IntKind.wrap, IntKind.bits, IntKind.signed]; omega
                simp only [Nat.zero_add] at ho0 ho1
                go_wp2_with fail
                refine wp_region_quiet_tail_lit 32 (by kernel_rfl) (by kernel_rfl) ?_
                simp only [List.take_succ_cons, List.take_zero, List.drop_succ_cons, List.drop_zero]
                repeat (go_big_quiet_step (fail))
                refine wpQuiet_nil ?_
                rintro _ ⟨nq, rfl⟩
                have HAN := Lib.hid ((HO5.out.keeps ((Keeps.refl _).drewN nq)).put hAL j (by omega) ⟨ci + si, cq + sq⟩)
                rw [show sm (⟨ci, cq⟩ : Smp) ⟨si, sq⟩ = ⟨ci + si, cq + sq⟩ from rfl] at HSET
                rw [HSET.out] at HAN
                have hmx2 : max A (j + 1) = j + 1 := by omega
                simp only at HAN
                have HKN := Lib.hid (HK5.out.drewN nq)
                clear HO5 HSET
                go_wp2_with fail
                go_roundw
                case rel =>
                  refine ⟨j + 1, by omega, by go_num, by rw [hmx2]; exact HAN, Lib.hid ?_⟩
                  repeat (with_reducible refine Keeps.setCell ?_ (by first | (simp; done) | (simp; omega) | exact Nat.le_refl _ | omega) _)
                  exact HKN.out
                case measure => simp [intOf]; omega
        · obtain rfl : k = ls.length := by omega
          obtain ⟨va, vc, hv, hsr, -⟩ := HO.out.shape
          rw [accS_len] at hv hsr
          subst hv
          have HSR := Lib.hid hsr
          clear hsr
          go_wp2_with fail
          with_reducible refine (mays_any va _ vc _ _ HSR.out).mono ?_
          rintro e w1 ⟨rfl, hk1⟩
          replace HK := Lib.hid (HK.out.trans hk1)
          replace HO := Lib.hid (HO.out.keeps hk1)
          clear hk1
          cases hall : allB (accS ls ls.length 0 (longTo ls ls.length))
          · rw [hall] at HR2
            go_wp2_with fail
            refine bodyPost_ret (v := .tuple #[.slice none 0 0, .int .i64 31]) (by simp [results, Try.results51, go_sem, *]) rfl (SRes.no HR2.out ⟨rfl, HK.out⟩)
          · rw [hall] at HR2
            go_wp2_with fail
            refine bodyPost_ret (v := .tuple #[.slice va (longTo ls ls.length) vc, .int .i64 0]) (by simp [results, Try.results51, go_sem, *]) rfl ?_
            exact ⟨_, by rw [HR2.out]; rfl, by rw [HR2.out]; exact HO.out, HK.out⟩
end Go.Proofs.Ytdjbalaicfienaa
