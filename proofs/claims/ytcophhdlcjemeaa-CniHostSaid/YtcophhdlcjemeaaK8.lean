/- The walks of layer 12, 8: Alive, Send. -/
import Derived.Test.YtcophhdlcjemeaaK6
namespace Go.Proofs.Ytcophhdlcjemeaa
open Go.RowKit
set_option linter.unusedVariables false
set_option linter.unusedSimpArgs false
def aliveP (p : PCni) : Bool := cniOk p && decide (0 < p.life)
set_option maxRecDepth 100000 in
set_option maxHeartbeats 1000000 in
theorem alive_any (c : RCni) (w : World) (hc : c.In w) : Calls Try.prog 20 #[c.val] w fun e w' => e = .returned (.bool (aliveP c.p)) ∧ Keeps w w' := by
  have HCH := Lib.hid (ccheck_any c)
  have HC := Lib.hid hc
  clear hc
  have HP : Hid (aliveP c.p = (cniOk c.p && decide (0 < c.life))) := Lib.hid rfl
  obtain ⟨P, hP⟩ : ∃ P, P = aliveP c.p := ⟨_, rfl⟩
  obtain ⟨O, hO⟩ : ∃ O, O = cniOk c.p := ⟨_, rfl⟩
  rw [← hO] at HCH
  rw [← hP, ← hO] at HP
  rw [← hP]
  clear hP hO
  obtain ⟨id, ⟨oa, olen, ocap, ol⟩, ia, n, cap, ms, life, want⟩ := c
  simp only at HP
  have HB := Lib.hid (Box.new w 39 #[.int .i64 id, .slice oa olen ocap, .slice ia n cap, .int .i64 life, .int .i64 want])
  have HK := Lib.hid ((Keeps.refl w).alloc (.cells #[.int .i64 id, .slice oa olen ocap, .slice ia n cap, .int .i64 life, .int .i64 want] 39))
  show Calls Try.prog 20 #[.agg #[.int .i64 id, .slice oa olen ocap, .slice ia n cap, .int .i64 life, .int .i64 want]] w _
  go_enter Try.func20, Try.ntmps20
  go_wp2_with fail
  (with_reducible refine (HCH.out _ (by exact HC.out.keeps HK.out)).mono ?_)
  rintro e w1 ⟨rfl, hk1⟩
  replace HB := Lib.hid (HB.out.keeps hk1)
  replace HK := Lib.hid (HK.out.trans hk1)
  clear hk1
  have b0 := HB.out.cell 0 _ rfl
  have b1 := HB.out.cell 1 _ rfl
  have b2 := HB.out.cell 2 _ rfl
  have b3 := HB.out.cell 3 _ rfl
  have b4 := HB.out.cell 4 _ rfl
  have bl := HB.out.lt
  cases O
  · simp only [cond_false]
    go_wp2_with fail
    go_ret
    exact ⟨by rw [HP.out]; rfl, HK.out⟩
  simp only [cond_true]
  by_cases t : 0 < life
  · have d1 : decide (0 < life) = true := decide_eq_true t
    rw [d1] at HP
    go_wp2_with fail
    go_ret
    exact ⟨by rw [HP.out]; rfl, HK.out⟩
  · have d1 : decide (0 < life) = false := decide_eq_false t
    rw [d1] at HP
    go_wp2_with fail
    go_ret
    exact ⟨by rw [HP.out]; rfl, HK.out⟩
/-- what is sent -/
def sentL (p : PCni) (n : Nat) : List Nat := cond (decide (0 < p.life)) (over (List.replicate n 0) 0 (p.o.take (min p.o.length n))) (List.replicate n 0)
def sendP (p : PCni) (long : Int) : List Nat := cond (cniOk p) (cond (betw long 0 8) (sentL p long.toNat) []) []
def sendE (p : PCni) (long : Int) : Int := cond (cniOk p) (cond (betw long 0 8) 0 2) 120
/-- what a call answers: bytes, and the error -/
def BytesPost (l : List Nat) (r : Int) (w : World) (e : Ending) (w' : World) : Prop := ∃ y : RY, e = .returned (.tuple #[.slice y.a y.len y.cap, .int .i64 r]) ∧ y.l = l ∧ y.In w' ∧ Keeps w w'
theorem over_byte {n : Nat} {m : List Nat} (h : ∀ v ∈ m, v < 256) (hm : m.length ≤ n) : ∀ v ∈ over (List.replicate n 0) 0 m, v < 256 := by
  intro v hv
  unfold over at hv
  simp only [List.take_zero, List.nil_append, Nat.zero_add, List.mem_append] at hv
  rcases hv with hv | hv
  · exact h v hv
  · rw [List.drop_replicate] at hv
    rw [List.eq_of_mem_replicate hv]; decide
set_option maxRecDepth 100000 in
set_option maxHeartbeats 2000000 in
theorem send_any (c : RCni) (long : Int) (w : World) (hc : c.In w) : Calls Try.prog 18 #[c.val, .int .i64 long] w (BytesPost (sendP c.p long) (sendE c.p long) w) := by
  have HCH := Lib.hid (ccheck_any c)
  have HAL := Lib.hid (alive_any c)
  have HC := Lib.hid hc
  have hol := hc.o.row.1
  clear hc
  have HP : Hid (sendP c.p long = cond (cniOk c.p) (cond (betw long 0 8) (sentL c.p long.toNat) []) []) := Lib.hid rfl
  have HE : Hid (sendE c.p long = cond (cniOk c.p) (cond (betw long 0 8) 0 2) 120) := Lib.hid rfl
  have HS : Hid (∀ n, sentL c.p n = cond (decide (0 < c.life)) (over (List.replicate n 0) 0 (c.o.l.take (min c.o.len n))) (List.replicate n 0)) := Lib.hid (fun n => by rw [← hol]; rfl)
  have HAE : Hid (aliveP c.p = (cniOk c.p && decide (0 < c.life))) := Lib.hid rfl
  obtain ⟨P, hP⟩ : ∃ P, P = sendP c.p long := ⟨_, rfl⟩
  obtain ⟨E, hE⟩ : ∃ E, E = sendE c.p long := ⟨_, rfl⟩
  obtain ⟨O, hO⟩ : ∃ O, O = cniOk c.p := ⟨_, rfl⟩
  obtain ⟨A, hA⟩ : ∃ A, A = aliveP c.p := ⟨_, rfl⟩
  rw [← hO] at HCH
  rw [← hA] at HAL
  rw [← hA, ← hO] at HAE
  rw [← hP, ← hO] at HP
  rw [← hE, ← hO] at HE
  rw [← hP, ← hE]
  clear hP hE hO hA
  obtain ⟨id, ⟨oa, olen, ocap, ol⟩, ia, n, cap, ms, life, want⟩ := c
  simp only at HS HAE hol
  have HOL := Lib.hid hol
  have ho63 := Nat.le_trans HC.out.o.cap HC.out.o.max
  simp only at ho63
  clear hol
  have HW := Lib.hid (within12_any long 0 8)
  obtain ⟨B, hB⟩ : ∃ B, B = betw long 0 8 := ⟨_, rfl⟩
  have HBW := Lib.hid (fun h : betw long 0 8 = true => (betw_iff _ _ _).1 h)
  rw [← hB] at HP HE HW HBW
  clear hB
  have HB := Lib.hid (Box.new w 39 #[.int .i64 id, .slice oa olen ocap, .slice ia n cap, .int .i64 life, .int .i64 want])
  have HK := Lib.hid ((Keeps.refl w).alloc (.cells #[.int .i64 id, .slice oa olen ocap, .slice ia n cap, .int .i64 life, .int .i64 want] 39))
  show Calls Try.prog 18 #[.agg #[.int .i64 id, .slice oa olen ocap, .slice ia n cap, .int .i64 life, .int .i64 want], .int .i64 long] w _
  go_enter Try.func18, Try.ntmps18
  go_wp2_with fail
  (with_reducible refine (HCH.out _ (by exact HC.out.keeps HK.out)).mono ?_)
  rintro e w1 ⟨rfl, hk1⟩
  replace HB := Lib.hid (HB.out.keeps hk1)
  replace HK := Lib.hid (HK.out.trans hk1)
  clear hk1
  have b0 := HB.out.cell 0 _ rfl
  have b1 := HB.out.cell 1 _ rfl
  have b2 := HB.out.cell 2 _ rfl
  have b3 := HB.out.cell 3 _ rfl
  have b4 := HB.out.cell 4 _ rfl
  have bl := HB.out.lt
  cases O
  · simp only [cond_false] at HP HE ⊢
    obtain rfl : E = 120 := HE.out
    go_wp2_with fail
    go_ret2
    exact ⟨RY.zero, rfl, HP.out.symm, RY.zero_in _, HK.out⟩
  simp only [cond_true] at HP HE ⊢
  go_wp2_with fail
  (with_reducible refine (HW.out _).mono ?_)
  rintro e w2 ⟨rfl, rfl⟩
  cases B
  · simp only [cond_false] at HP HE
    obtain rfl : E = 2 := HE.out
    go_wp2_with fail
    go_ret2
    exact ⟨RY.zero, rfl, HP.out.symm, RY.zero_in _, HK.out⟩
  simp only [cond_true] at HP HE
  obtain rfl : E = 0 := HE.out
  have hlb := HBW.out (by first | rfl | trivial)
  obtain ⟨lg, rfl⟩ : ∃ lg : Nat, long = lg := ⟨long.toNat, by omega⟩
  have HP0 : Hid (P = sentL (RCni.p ⟨id, ⟨oa, olen, ocap, ol⟩, ia, n, cap, ms, life, want⟩) lg) := Lib.hid (by rw [HP.out]; rfl)
  rw [HS.out] at HP0
  clear HP
  have hmk : ∀ w : World, (Instr.makeSlice 36 (.int .i64 (lg : Int)) (.int .i64 (lg : Int))).run Try.prog w = .ok (.slice (some ⟨w.heap.size, 0, none⟩) lg lg) (w.alloc (.cells (Go.Proofs.Ytcophhdlcjemeaa.zeros .u8 lg) 5)) := fun w => run_make_zeros 36 5 1 .u8 Try.underlying36 infoY lg lg rfl (by omega) (by omega) w
  have HGB := Lib.hid (Blk.zeros w2 .u8 5 lg)
  have HB2 := Lib.hid (HB.out.next (.cells (Go.Proofs.Ytcophhdlcjemeaa.zeros .u8 lg) 5))
  have HK2 := Lib.hid (HK.out.alloc (.cells (Go.Proofs.Ytcophhdlcjemeaa.zeros .u8 lg) 5))
  obtain ⟨Z, hZ⟩ : ∃ Z, Z = Go.Proofs.Ytcophhdlcjemeaa.zeros .u8 lg := ⟨_, rfl⟩
  rw [← hZ] at HGB HB2 HK2
  simp only [← hZ] at hmk
  clear hZ
  go_wp2_with fail
  (with_reducible refine (HAL.out _ (by exact HC.out.keeps HK2.out)).mono ?_)
  rintro e w3 ⟨rfl, hk1⟩
  have hgl : w2.heap.size < w3.heap.size := by have := hk1.size; simp at this; omega
  obtain ⟨G, hG⟩ : ∃ G, G = w2.heap.size := ⟨_, rfl⟩
  have hGw : w.heap.size < G := by rw [hG]; exact bl
  rw [← hG] at HGB hgl ⊢
  clear hG
  replace HGB := Lib.hid (HGB.out.keeps hk1)
  replace HB := Lib.hid (HB2.out.keeps hk1)
  replace HK := Lib.hid (HK2.out.trans hk1)
  clear hk1 HB2 HK2 b0 b1 b2 b3 b4 bl hmk
  have b0 := HB.out.cell 0 _ rfl
  have b1 := HB.out.cell 1 _ rfl
  have b2 := HB.out.cell 2 _ rfl
  have b3 := HB.out.cell 3 _ rfl
  have b4 := HB.out.cell 4 _ rfl
  have bl := HB.out.lt
  have HAE2 : Hid (A = decide (0 < life)) := Lib.hid (by rw [HAE.out]; rfl)
  cases A
  · have HL : Hid (P = List.replicate lg 0) := Lib.hid (by rw [HP0.out, ← HAE2.out]; rfl)
    go_wp2_with fail
    go_ret2
    refine ⟨⟨some ⟨G, 0, none⟩, lg, lg, List.replicate lg 0⟩, rfl, HL.out.symm, ⟨Nat.le_refl _, by show lg ≤ _; omega, fun v hv => by rw [List.eq_of_mem_replicate hv]; decide, HGB.out.row lg (by simp)⟩, HK.out⟩
  · have HL : Hid (P = over (List.replicate lg 0) 0 (ol.take (min olen lg))) := Lib.hid (by rw [HP0.out, ← HAE2.out]; rfl)
    have HRO := Lib.hid (HC.out.keeps HK.out).o.row
    simp only at HRO
    have hsz : (Try.prog.info? 5).map (·.size) = some 1 := by kernel_rfl
    have hmin : min olen lg ≤ lg := Nat.min_le_right _ _
    go_wp2_with (refine wpList_copy_blk rfl _ _ 36 36 rfl 5 Try.underlying36 hsz .u8 (some ⟨G, 0, none⟩) oa lg lg olen ocap rfl rfl G 0 5 (List.replicate lg 0) ol (by exact HGB.out) (by exact HRO.out) (fun _ => rfl) (by simp; omega) ?hmain)
    case hmain =>
      intro w4 hb hkb
      have HG4 := Lib.hid hb
      have HK4 : Hid (Keeps w w4) := Lib.hid (KeepsBut.keeps HK.out hkb (by omega))
      clear hb hkb
      go_wp2_with fail
      go_ret2
      have hby : ∀ v ∈ ol.take (min olen lg), v < 256 := fun v hv => HC.out.o.byte v (List.mem_of_mem_take hv)
      have hlen : (ol.take (min olen lg)).length ≤ lg := by rw [List.length_take]; omega
      refine ⟨⟨some ⟨G, 0, none⟩, lg, lg, over (List.replicate lg 0) 0 (ol.take (min olen lg))⟩, rfl, HL.out.symm, ⟨Nat.le_refl _, by show lg ≤ _; omega, over_byte hby hlen, HG4.out.row lg (by rw [over_len _ _ _ (by simp; omega)]; simp)⟩, HK4.out⟩
end Go.Proofs.Ytcophhdlcjemeaa
