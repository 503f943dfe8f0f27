/- The walks of layer 3, 17: Add. -/
import Derived.Test.YtdjbalaicfienaaP23
import Derived.BigRegion
import Derived.Test.YtdjbalaicfienaaQTail
namespace Go.Proofs.Ytdjbalaicfienaa
open Go.RowKit
set_option linter.unusedVariables false
set_option linter.unusedSimpArgs false
set_option maxRecDepth 100000 in
set_option maxHeartbeats 8000000 in
theorem add_any (a : Option Addr) (n cap : Nat) (ls : List RS) (w : World) (hx : SRs w a n cap ls) (h50 : ls.length ≤ 50) (hN : ∀ x ∈ ls, x.xs.length ≤ 100000) :
    Calls Try.prog 50 #[.slice a n cap] w fun e w' => SRes w w' e (addRes ls) := by
  have HX := Lib.hid hx
  have hlen := hx.len
  have hcap := hx.hcap
  have hmax := hx.hmax
  subst hlen
  have HNO := Lib.hid (allRs_no ls)
  have HYES := Lib.hid (allRs_yes ls)
  have HRN := Lib.hid (addRes_no ls)
  have HRY := Lib.hid (addRes_yes ls)
  have HNN := Lib.hid hN
  obtain ⟨R, hR⟩ : ∃ R, R = addRes ls := ⟨_, rfl⟩
  rw [← hR] at HRN HRY ⊢
  have HLL := Lib.hid (longTo_le ls 100000 hN)
  clear hx hR hN
  go_enter Try.func50, Try.ntmps50
  go_wp2_with fail
  go_loopw [4, 14] (fun v i wr => ∃ k : Nat, k ≤ ls.length ∧ i = .int .i64 k ∧ v = .int .i64 (longTo ls k : Nat) ∧ Hid (∀ j (hj : j < ls.length), j < k → allB ls[j].xs = true) ∧ Hid (Keeps w wr)) (fun _ i _ => ls.length - (intOf i).toNat)
  case atStart => exact ⟨0, by omega, rfl, rfl, Lib.hid (fun j _ h => absurd h (by omega)), Lib.hid (Keeps.refl w)⟩
  case round =>
    obtain ⟨k, hk, rfl, rfl, HC, HK⟩ := hrel
    by_cases hlt : k < ls.length
    · obtain ⟨b, off, rfl, hbl, hcell⟩ := HX.out.addr (by omega)
      have hc := HK.out.later (hcell k hlt)
      have HC2 := Lib.hid (HNO.out k hlt)
      have HC3 : Hid (allB ls[k].xs = true → ∀ j (hj : j < ls.length), j < k + 1 → allB ls[j].xs = true) := Lib.hid (by
        intro h j hj hjk
        by_cases hjk' : j = k
        · subst hjk'; exact h
        · exact HC.out j hj (by omega))
      have HS := Lib.hid ((HX.out.row k hlt).keeps HK.out)
      have HLT : Hid (longTo ls (k + 1) = max (longTo ls k) ls[k].xs.length) := Lib.hid (by simp only [longTo]; rw [rowOf_get ls k hlt])
      have hL1 := HLL.out k hk
      have hL2 := HLL.out (k + 1) hlt
      obtain ⟨x, hx⟩ : ∃ x, x = ls[k]'(by omega) := ⟨_, rfl⟩
      rw [← hx] at hc HC2 HC3 HS HLT
      obtain ⟨xa, xc, xx⟩ := x
      simp only [RS.val] at hc HC2 HC3 HS HLT
      obtain ⟨M, hM⟩ : ∃ M, M = xx.length := ⟨_, rfl⟩
      rw [← hM] at hc HS HLT
      clear hcell HC hx hM
      obtain ⟨A, hA⟩ : ∃ A, A = longTo ls k := ⟨_, rfl⟩
      rw [← hA] at HLT hL1 ⊢
      clear hA
      have hmx1 : (if (A : Int) < (M : Int) then (M : Int) else (A : Int)) = ((max A M : Nat) : Int) := by split <;> omega
      have hmx2 : (if (M : Int) ≤ (A : Int) then (A : Int) else (M : Int)) = ((max A M : Nat) : Int) := by split <;> omega
      go_wp2_with fail
      with_reducible refine (all_samples xa M xc xx _ HS.out).mono ?_
      rintro e w1 ⟨rfl, hk1⟩
      replace HK := Lib.hid (HK.out.trans hk1)
      clear hk1
      cases hall : allB xx
      · have HR := Lib.hid (HRN.out (HC2.out hall))
        go_wp2_with fail
        refine bodyPost_ret (v := .tuple #[.slice none 0 0, .int .i64 31]) (by simp [results, Try.results50, go_sem, *]) rfl (SRes.no HR.out ⟨rfl, HK.out⟩)
      · have HQ := Lib.hid (HC3.out hall)
        clear HC2 HC3
        go_wp2_with fail
        go_roundw
        case rel => exact ⟨k + 1, by omega, by go_num, by rw [HLT.out]; go_num, HQ, HK⟩
        case measure => simp [intOf]; omega
    · obtain rfl : k = ls.length := by omega
      have HALL : Hid (∀ j (hj : j < ls.length), allB ls[j].xs = true) := Lib.hid (fun j hj => HC.out j hj hj)
      have HR2 := Lib.hid (HRY.out (HYES.out HALL.out))
      clear HRN HRY HYES HNO HC
      have hL := HLL.out _ (Nat.le_refl ls.length)
      obtain ⟨L, hLd⟩ : ∃ L, L = longTo ls ls.length := ⟨_, rfl⟩
      have HLD := Lib.hid hLd
      rw [← hLd] at HR2 hL ⊢
      clear hLd
      obtain ⟨Z, hmk, hown⟩ := make_full (L : Int) L rfl hL
      have HO0 := Lib.hid (hown wr)
      have hsz0 := HK.out.size
      clear hown
      have HKA : Hid (Keeps w (wr.alloc (.cells Z 63))) := Lib.hid (HK.out.alloc _)
      have HOS : Hid (OwnP (wr.alloc (.cells Z 63)) w.heap.size (.slice (some ⟨wr.heap.size, 0, none⟩) L L) (accS ls 0 0 L)) := Lib.hid (by rw [accS_start]; exact HO0.out.mono hsz0)
      clear HO0
      go_wp2_with fail
      obtain ⟨G, hG⟩ : ∃ G, G = wr.heap.size := ⟨_, rfl⟩
      rw [← hG] at HOS hsz0 ⊢
      clear hG hmk
      go_loopw [30] (fun i wr => ∃ k : Nat, k ≤ ls.length ∧ i = .int .i64 k ∧ Hid (OwnP wr w.heap.size (.slice (some ⟨G, 0, none⟩) L L) (accS ls k 0 L)) ∧ Hid (Keeps w wr)) (fun i _ => ls.length - (intOf i).toNat)
      case atStart => exact ⟨0, by omega, rfl, HOS, HKA⟩
      case round =>
        clear HOS HKA HK
        obtain ⟨k, hk, rfl, HO, HK⟩ := hrel
        by_cases hlt : k < ls.length
        · obtain ⟨b, off, rfl, hbl, hcell⟩ := HX.out.addr (by omega)
          have hc := HK.out.later (hcell k hlt)
          have HS := Lib.hid (HX.out.row k hlt)
          have HALLK := Lib.hid (HALL.out k hlt)
          have HRO := Lib.hid (rowOf_get ls k hlt)
          have HLE := Lib.hid (longTo_row ls k ls.length hlt)
          rw [← HLD.out, HRO.out] at HLE
          have HNX := Lib.hid (HNN.out _ (List.getElem_mem hlt))
          obtain ⟨x, hx⟩ : ∃ x, x = ls[k]'(by omega) := ⟨_, rfl⟩
          rw [← hx] at hc HS HRO HLE HNX HALLK
          obtain ⟨xa, xc, xx⟩ := x
          simp only [RS.val] at hc HS HRO HLE HNX HALLK
          obtain ⟨M, hM⟩ : ∃ M, M = xx.length := ⟨_, rfl⟩
          have HM := Lib.hid hM
          rw [← hM] at hc HS HLE HNX
          clear hcell hx hM
          go_wp2_with fail
          go_loopw [36] (fun i wr => ∃ j : Nat, j ≤ M ∧ i = .int .i64 j ∧ Hid (OwnP wr w.heap.size (.slice (some ⟨G, 0, none⟩) L L) (accS ls k j L)) ∧ Hid (Keeps w wr)) (fun i _ => M - (intOf i).toNat)
          case atStart => exact ⟨0, by omega, rfl, HO, HK⟩
          case round =>
            clear HO HK hc
            obtain ⟨j, hj, rfl, HO, HK⟩ := hrel
            by_cases hjl : j < M
            case neg =>
              obtain rfl : j = M := by omega
              have HO2 : Hid (OwnP wr w.heap.size (.slice (some ⟨G, 0, none⟩) L L) (accS ls (k + 1) 0 L)) := Lib.hid (by
                rw [← accS_row ls k j L (by rw [HRO.out, ← HM.out]; exact Nat.le_refl _)]; exact HO.out)
              clear HO
              go_wp2_with fail
              go_roundw
              case rel => exact ⟨k + 1, by omega, by go_num, HO2, HK⟩
              case measure => simp [intOf]; omega
            have hjx : j < xx.length := by have := HM.out; omega
            have hjL : j < L := by have := HLE.out; omega
            obtain ⟨b2, off2, rfl, hbl2, hcell2⟩ := HS.out.addr (by omega)
            obtain ⟨hc0, hc1⟩ := hcell2 j hjx
            replace hc0 := HK.out.later hc0
            replace hc1 := HK.out.later hc1
            have hma := mayB_in _ (allB_get HALLK.out j hjx)
            have hmb := colTo_in ls HALL.out k j hk
            have HSET : Hid ((accS ls k j L).set j (sm (colTo ls k j) xx[j]) = accS ls k (j + 1) L) := Lib.hid (by
              rw [← accS_set ls k j L hjL]
              simp only [colTo]
              rw [HRO.out, List.getD_eq_getElem?_getD, List.getElem?_eq_getElem hjx]
              rfl)
            have hx1 := HX.out.isIn
            have hAL := accS_len ls k j L
            obtain ⟨x, hx⟩ : ∃ x, x = xx[j] := ⟨_, rfl⟩
            rw [← hx] at hc0 hc1 hma HSET
            clear hx hcell2 hx1
            obtain ⟨si, sq⟩ := x
            have HA := Lib.hid ((HO.out.keeps ((Keeps.refl wr).alloc (.cells #[.int .i64 si, .int .i64 sq] 63))))
            obtain ⟨a', c', he, hsr, hblk⟩ := HA.out.shape
            simp only [Value.slice.injEq] at he
            obtain ⟨rfl, he2, rfl⟩ := he
            obtain ⟨hge, hGl, -, hfz⟩ := hblk _ rfl
            obtain ⟨b3, off3, hb3, ho0, ho1⟩ := hsr.cell j (by omega)
            simp only [Option.some.injEq, Addr.mk.injEq, and_true] at hb3
            obtain ⟨rfl, rfl⟩ := hb3
            rw [accS_at] at ho0 ho1
            obtain ⟨c, hcc⟩ : ∃ c, c = colTo ls k j := ⟨_, rfl⟩
            rw [← hcc] at ho0 ho1 hmb HSET
            clear hcc hsr hblk he2
            obtain ⟨ci, cq⟩ := c
            simp only [inB] at hma hmb hc0 hc1 ho0 ho1
            have w1 : IntKind.i64.wrap (ci + si) = ci + si := by simp [IntKind.wrap, IntKind.bits, IntKind.signed]; omega
            have w2 : IntKind.i64.wrap (cq + sq) = cq + sq := by simp [IntKind.wrap, IntKind.bits, IntKind.signed]; omega
            simp only [Nat.zero_add] at ho0 ho1
            have ho0' := ho0
            have ho1' := ho1
            go_wp2_with fail
            refine wp_region_quiet_tail_lit 20 (by kernel_rfl) (by kernel_rfl) ?_
            simp only [List.take_succ_cons, List.take_zero, List.drop_succ_cons, List.drop_zero]
            repeat (go_big_quiet_step (fail))
            refine wpQuiet_nil ?_
            rintro _ ⟨nq, rfl⟩
            have HAN := Lib.hid ((HA.out.keeps ((Keeps.refl _).drewN nq)).put hAL j (by omega) ⟨ci + si, cq + sq⟩)
            rw [show sm (⟨ci, cq⟩ : Smp) ⟨si, sq⟩ = ⟨ci + si, cq + sq⟩ from rfl] at HSET
            rw [HSET.out] at HAN
            simp only at HAN
            have HKN := Lib.hid ((HK.out.alloc (.cells #[.int .i64 si, .int .i64 sq] 63)).drewN nq)
            clear HO HA HSET
            go_wp2_with fail
            go_roundw
            case rel =>
              refine ⟨j + 1, by omega, by go_num, HAN, Lib.hid ?_⟩
              repeat (with_reducible refine Keeps.setCell ?_ (by first | (simp; done) | (simp; omega) | exact Nat.le_refl _ | omega) _)
              exact HKN.out
            case measure => simp [intOf]; omega
        · obtain rfl : k = ls.length := by omega
          have HM := HO.out.shape
          obtain ⟨a', c', he, hsr, -⟩ := HM
          simp only [Value.slice.injEq] at he
          obtain ⟨rfl, he2, rfl⟩ := he
          rw [← he2] at hsr
          clear he2
          have HSR := Lib.hid hsr
          clear hsr
          go_wp2_with fail
          with_reducible refine (all_samples (some ⟨G, 0, none⟩) L L _ _ HSR.out).mono ?_
          rintro e w1 ⟨rfl, hk1⟩
          replace HK := Lib.hid (HK.out.trans hk1)
          replace HO := Lib.hid (HO.out.keeps hk1)
          clear hk1
          cases hall : allB (accS ls ls.length 0 L)
          · rw [hall] at HR2
            go_wp2_with fail
            refine bodyPost_ret (v := .tuple #[.slice none 0 0, .int .i64 31]) (by simp [results, Try.results50, go_sem, *]) rfl (SRes.no HR2.out ⟨rfl, HK.out⟩)
          · rw [hall] at HR2
            go_wp2_with fail
            refine bodyPost_ret (v := .tuple #[.slice (some ⟨G, 0, none⟩) L L, .int .i64 0]) (by simp [results, Try.results50, go_sem, *]) rfl ?_
            exact ⟨_, by rw [HR2.out]; rfl, by rw [HR2.out]; exact HO.out, HK.out⟩
end Go.Proofs.Ytdjbalaicfienaa
