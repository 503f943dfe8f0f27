/- The walks of layer 12, 20: the reference's Fresh. -/
import Derived.Test.YtcophhdlcjemeaaK19
namespace Go.Proofs.Ytcophhdlcjemeaa
open Go.RowKit
set_option linter.unusedVariables false
set_option linter.unusedSimpArgs false
set_option maxRecDepth 100000 in
set_option maxHeartbeats 2000000 in
theorem rfresh_any (c : RCni) (age : Int) (w : World) (hc : c.In w) :
    Calls Try.prog 32 #[c.val, .int .i64 age] w fun e w' => ∃ v, e = .returned v ∧ Own w' (w.heap.size + 1) 3 v (i64s (freshP c.p age)) ∧ Keeps w w' := by
  have HCH := Lib.hid (rccheck_any c)
  have HC := Lib.hid hc
  have HF : Hid (freshP c.p age = cond (cniOk c.p) (freshTo c.p.ms age c.p.ms.length) []) := Lib.hid rfl
  have HPM : Hid (c.p.ms = c.ms.map RMsg.p) := Lib.hid rfl
  have HOK : Hid (cniOk c.p = true → c.n ≤ 8) := Lib.hid (fun h => by
    have := ((cniOk_iff c.p).1 h).1
    have h2 := hc.m.len
    simp only [RCni.p, List.length_map] at this
    omega)
  have hcn := hc.m.len
  have hcap := hc.m.hcap
  have hmax := hc.m.hmax
  clear hc
  obtain ⟨O, hO⟩ : ∃ O, O = cniOk c.p := ⟨_, rfl⟩
  obtain ⟨F, hF⟩ : ∃ F, F = freshP c.p age := ⟨_, rfl⟩
  obtain ⟨M, hM⟩ : ∃ M, M = c.p.ms := ⟨_, rfl⟩
  rw [← hO] at HCH HOK
  rw [← hO, ← hF, ← hM] at HF
  rw [← hM] at HPM
  rw [← hF]
  clear hO hF hM
  obtain ⟨id, ⟨oa, olen, ocap, ol⟩, ia, n, cap, ms, life, want⟩ := c
  simp only at hcn hcap hmax HPM HOK
  have HN := Lib.hid hcn
  clear hcn
  have HB := Lib.hid (Box.new w 39 #[.int .i64 id, .slice oa olen ocap, .slice ia n cap, .int .i64 life, .int .i64 want])
  have HK := Lib.hid ((Keeps.refl w).alloc (.cells #[.int .i64 id, .slice oa olen ocap, .slice ia n cap, .int .i64 life, .int .i64 want] 39))
  show Calls Try.prog 32 #[.agg #[.int .i64 id, .slice oa olen ocap, .slice ia n cap, .int .i64 life, .int .i64 want], .int .i64 age] w _
  cases O
  · simp only [cond_false] at HF HCH
    have b0 := HB.out.cell 0 _ rfl
    have b1 := HB.out.cell 1 _ rfl
    have b2 := HB.out.cell 2 _ rfl
    have b3 := HB.out.cell 3 _ rfl
    have b4 := HB.out.cell 4 _ rfl
    have bl := HB.out.lt
    by_cases h0 : n = 0
    · subst h0
      go_enter Try.func32, Try.ntmps32
      go_wp2_with fail
      go_loop [5, 6] (fun v i => v = .slice none 0 0 ∧ i = .int .i64 0) (fun v i => 0)
      case atStart => exact ⟨rfl, rfl⟩
      case round =>
        obtain ⟨rfl, rfl⟩ := hrel
        go_wp2_with fail
        go_ret
        exact ⟨_, rfl, by rw [HF.out]; exact Own.nil _ _ _, HK.out⟩
    · have h0' : 0 < n := by omega
      have e1 : decide (0 < n) = true := decide_eq_true h0'
      have e2 : decide ((0 : Int) < (n : Int)) = true := by simp; omega
      go_enter Try.func32, Try.ntmps32
      go_wp2_with fail
      go_loop [5, 6] (fun v i => v = .slice none 0 0 ∧ i = .int .i64 0) (fun v i => 0)
      case atStart => exact ⟨rfl, rfl⟩
      case round =>
        obtain ⟨rfl, rfl⟩ := hrel
        go_wp2_with fail
        with_reducible refine (HCH.out _ (by exact HC.out.keeps HK.out)).mono ?_
        rintro e w1 ⟨rfl, hk1⟩
        replace HK := Lib.hid (HK.out.trans hk1)
        clear hk1
        go_wp2_with fail
        go_ret
        exact ⟨_, rfl, by rw [HF.out]; exact Own.nil _ _ _, HK.out⟩
  simp only [cond_true] at HF HCH
  have hn8 := HOK.out (by first | rfl | trivial)
  clear HOK
  go_enter Try.func32, Try.ntmps32
  go_wp2_with fail
  go_loopw [5, 6] (fun v i wr => ∃ k : Nat, k ≤ n ∧ i = .int .i64 k ∧ Hid (Own wr (w.heap.size + 1) 3 v (i64s (freshTo M age k))) ∧ Hid (Box wr w.heap.size 39 #[.int .i64 id, .slice oa olen ocap, .slice ia n cap, .int .i64 life, .int .i64 want]) ∧ Hid (Keeps w wr)) (fun _ i _ => n - (intOf i).toNat)
  case atStart => exact ⟨0, Nat.zero_le _, rfl, Own.nil _ _ _, HB, HK⟩
  case round =>
    clear HB HK
    obtain ⟨k, hk, rfl, HO, HB, HK⟩ := hrel
    have b0 := HB.out.cell 0 _ rfl
    have b1 := HB.out.cell 1 _ rfl
    have b2 := HB.out.cell 2 _ rfl
    have b3 := HB.out.cell 3 _ rfl
    have b4 := HB.out.cell 4 _ rfl
    have bl := HB.out.lt
    by_cases hlt : k < n
    case neg =>
      obtain rfl : k = n := by omega
      have HFE : Hid (freshTo M age k = F) := Lib.hid (by rw [HF.out, HPM.out, List.length_map, HN.out])
      go_wp2_with fail
      go_ret
      exact ⟨_, rfl, by rw [← HFE.out]; exact HO.out, HK.out⟩
    have e1 : decide (k < n) = true := decide_eq_true hlt
    have e2 : decide ((k : Int) < (n : Int)) = true := by simp; omega
    have hk' : k < ms.length := by rw [HN.out]; exact hlt
    obtain ⟨sb, so, hab, hcell⟩ := HC.out.m.addr (show 0 < ms.length by omega)
    simp only at hab
    subst hab
    go_wp2_with fail
    with_reducible refine (HCH.out _ (by exact HC.out.keeps HK.out)).mono ?_
    rintro e w1 ⟨rfl, hk1⟩
    replace HB := Lib.hid (HB.out.keeps hk1)
    replace HO := Lib.hid (HO.out.keeps hk1)
    replace HK := Lib.hid (HK.out.trans hk1)
    clear hk1 b0 b1 b2 b3 b4 bl
    have b0 := HB.out.cell 0 _ rfl
    have b1 := HB.out.cell 1 _ rfl
    have b2 := HB.out.cell 2 _ rfl
    have b3 := HB.out.cell 3 _ rfl
    have b4 := HB.out.cell 4 _ rfl
    have bl := HB.out.lt
    obtain ⟨hc0, hc1⟩ := hcell k hk'
    replace hc0 := HK.out.later hc0
    replace hc1 := HK.out.later hc1
    have HMK : Hid (M[k]? = some ms[k].p) := Lib.hid (by rw [HPM.out, List.getElem?_map, List.getElem?_eq_getElem hk']; rfl)
    clear hcell
    obtain ⟨x, hx⟩ : ∃ x, x = ms[k] := ⟨_, rfl⟩
    rw [← hx] at hc0 hc1 HMK
    clear hx hk'
    obtain ⟨⟨da, dlen, dcap, dl⟩, ag⟩ := x
    simp only at hc0 hc1
    have HFA : Hid (freshAt age (RMsg.p ⟨⟨da, dlen, dcap, dl⟩, ag⟩) = (decide (ag ≤ age) && decide (ag < 255))) := Lib.hid rfl
    by_cases t1 : ag ≤ age
    case neg =>
      have d1 : decide (ag ≤ age) = false := decide_eq_false t1
      rw [d1] at HFA
      have HS := Lib.hid (freshTo_no HMK.out HFA.out)
      go_wp2_with fail
      go_roundw
      case rel => exact ⟨k + 1, by omega, by go_num, by rw [HS.out]; exact HO, HB, HK⟩
      case measure => simp [intOf]; omega
    have d1 : decide (ag ≤ age) = true := decide_eq_true t1
    by_cases t2 : ag < 255
    case neg =>
      have d2 : decide (ag < 255) = false := decide_eq_false t2
      rw [d1, d2] at HFA
      have HS := Lib.hid (freshTo_no HMK.out HFA.out)
      go_wp2_with fail
      go_roundw
      case rel => exact ⟨k + 1, by omega, by go_num, by rw [HS.out]; exact HO, HB, HK⟩
      case measure => simp [intOf]; omega
    have d2 : decide (ag < 255) = true := decide_eq_true t2
    rw [d1, d2] at HFA
    have HS := Lib.hid (freshTo_yes HMK.out HFA.out)
    have hlen := freshTo_le M age k
    have hbl := HB.out.lt
    go_wp2_with (refine wpList_push rfl (.tmp 36) (.tmp 38) 57 rfl 3 8 (.int .i64 0) Try.underlying57 info_int4 rfl (w.heap.size + 1) _ _ rfl (by exact HO.out.keeps ((Keeps.refl _).alloc _)) _ _ rfl (by exact World.cell?_alloc_new _ _ _ _) rfl ?h1 ?h2 ?h3 ?hmain)
    case h1 => simp; omega
    case h2 => simp; omega
    case h3 => simp; omega
    case hmain =>
      intro v2 w3 hown hbel
      have hk3 : Below (w.heap.size + 1) w1 w3 := (((Below.refl _ w1).alloc (by omega) _)).trans hbel
      have HB3 := Lib.hid (Box.below HB.out hk3 (by omega))
      have HK3 : Hid (Keeps w w3) := (HK.out.alloc _).below hbel (by omega)
      have HO3 : Hid (Own w3 (w.heap.size + 1) 3 v2 (i64s (freshTo M age (k + 1)))) := by
        refine Lib.hid ?_; rw [HS.out]; simpa [i64s] using hown
      clear hown hbel hk3 HO HB HK hbl
      go_wp2_with fail
      go_roundw
      case rel => exact ⟨k + 1, by omega, by go_num, HO3, HB3, HK3⟩
      case measure => simp [intOf]; omega
end Go.Proofs.Ytcophhdlcjemeaa
