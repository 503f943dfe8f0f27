/- The walks of layer 12, 9: the law's begun; bytes that are the same. -/
import Derived.Test.YtcophhdlcjemeaaK7
import Derived.Test.YtcophhdlcjemeaaK8
import Derived.Test.YtcophhdlcjemeaaT5a
namespace Go.Proofs.Ytcophhdlcjemeaa
open Go.RowKit
set_option linter.unusedVariables false
set_option linter.unusedSimpArgs false
def eqY (x y : RY) : Bool := decide (x.l = y.l)
set_option maxHeartbeats 400000 in
theorem bytesEq_any (x y : RY) (w : World) (hx : x.In w) (hy : y.In w) :
    Calls Try.prog 23 #[.slice x.a x.len x.cap, .slice y.a y.len y.cap] w fun e w' => e = .returned (.bool (eqY x y)) ∧ w' = w := by
  have hc1 := Row.str (cap := x.cap) hx.row
  have hc2 := Row.str (cap := y.cap) hy.row
  have hb1 := hx.byte
  have hb2 := hy.byte
  clear hx hy
  obtain ⟨a, len, cap, l⟩ := x
  obtain ⟨b, len2, cap2, l2⟩ := y
  simp only at hc1 hc2 hb1 hb2
  have hs : ((strOf l).toList == (strOf l2).toList) = decide (l = l2) := by
    rw [Bool.eq_iff_iff, beq_iff_eq, decide_eq_true_eq]
    exact ⟨fun h => strOf_inj' hb1 hb2 (by rw [strOf_list, strOf_list] at h; exact h), fun h => by rw [h]⟩
  clear hb1 hb2
  show Calls Try.prog 23 #[.slice a len cap, .slice b len2 cap2] w _
  go_enter Try.func23, Try.ntmps23
  go_wp2_with fail
  go_ret
  exact ⟨rfl, rfl⟩
theorem RY.ofBlk {w : World} {B t : Nat} {l : List Nat} (h : Blk w .u8 t B l) (hb : ∀ v ∈ l, v < 256) (hl : l.length ≤ 9223372036854775807) : RY.In ⟨some ⟨B, 0, none⟩, l.length, l.length, l⟩ w :=
  ⟨Nat.le_refl _, hl, hb, h.row _ rfl⟩
/-- an interface is stored in its box -/
@[reducible] def putC (w : World) (C : Nat) (c : RCni) : World := ((((w.setCell ⟨C, 0, none⟩ (.int .i64 c.id)).setCell ⟨C, 1, none⟩ (.slice c.o.a c.o.len c.o.cap)).setCell ⟨C, 2, none⟩ (.slice c.ia c.n c.cap)).setCell ⟨C, 3, none⟩ (.int .i64 c.life)).setCell ⟨C, 4, none⟩ (.int .i64 c.want)
abbrev RCni.arr (c : RCni) : Array Value := #[.int .i64 c.id, .slice c.o.a c.o.len c.o.cap, .slice c.ia c.n c.cap, .int .i64 c.life, .int .i64 c.want]
theorem Box.putC {w : World} {C : Nat} {x : RCni} (h : Box w C 39 x.arr) (c : RCni) : Box (Go.Proofs.Ytcophhdlcjemeaa.putC w C c) C 39 c.arr :=
  Box.putK (Box.putK (Box.putK (Box.putK (Box.putK h 0 _) 1 _) 2 _) 3 _) 4 _
theorem Keeps.putC {a w : World} {C : Nat} (h : Keeps a w) (hC : a.heap.size ≤ C) (c : RCni) : Keeps a (Go.Proofs.Ytcophhdlcjemeaa.putC w C c) :=
  ((((h.setCell hC _).setCell hC _).setCell hC _).setCell hC _).setCell hC _
theorem RCni.Own.putC {x : RCni} {w : World} {base C : Nat} (h : x.Own w base) (hC : C < base) (c : RCni) : x.Own (Go.Proofs.Ytcophhdlcjemeaa.putC w C c) base :=
  h.same (((((((SameOn.refl _ w.heap.size _).setCell (.inl hC) _ _).setCell (.inl hC) _ _).setCell (.inl hC) _ _).setCell (.inl hC) _ _).setCell (.inl hC) _ _)) (Nat.le_refl _)
set_option maxRecDepth 100000 in
set_option maxHeartbeats 2000000 in
theorem begun12_any (w : World) : Calls Try.prog 16 #[] w fun e w' => e = .returned (.bool true) ∧ Keeps w w' := by
  have HN : Hid (∀ w, Calls Try.prog 37 #[.int .i64 1, .int .i64 4] w (CniPost (newP 1 4) 0 w)) := Lib.hid (fun w => by have h := new_any 1 4 w; rw [show newE 1 4 = 0 by decide +kernel] at h; exact h)
  have HWR : Hid (∀ (c : RCni) (d : RY) w, c.In w → d.In w → c.p = newP 1 4 → d.l = [5, 6] → Calls Try.prog 15 #[c.val, .slice d.a d.len d.cap] w (CniPost (writeP (newP 1 4) [5, 6]) 0 w)) := Lib.hid (fun c d w hc hd h1 h2 => by have h := write_any c d w hc hd; rw [h1, h2, show writeE (newP 1 4) [5, 6] = 0 by decide +kernel] at h; exact h)
  have HSE : Hid (∀ (c : RCni) w, c.In w → c.p = writeP (newP 1 4) [5, 6] → Calls Try.prog 18 #[c.val, .int .i64 3] w (BytesPost [5, 6, 0] 0 w)) := Lib.hid (fun c w hc h1 => by have h := send_any c 3 w hc; rw [h1, show sendP (writeP (newP 1 4) [5, 6]) 3 = [5, 6, 0] by decide +kernel, show sendE (writeP (newP 1 4) [5, 6]) 3 = 0 by decide +kernel] at h; exact h)
  obtain ⟨P1, hP1⟩ : ∃ P, P = newP 1 4 := ⟨_, rfl⟩
  obtain ⟨P2, hP2⟩ : ∃ P, P = writeP (newP 1 4) [5, 6] := ⟨_, rfl⟩
  rw [← hP2] at HWR HSE
  rw [← hP1] at HN HWR
  clear hP1 hP2
  go_enter Try.func16, Try.ntmps16
  go_wp2_with fail
  (with_reducible refine (HN.out _).mono ?_)
  rintro e w1 ⟨x, rfl, hp, ho, hk⟩
  have HXP := Lib.hid hp
  have HXI := Lib.hid ho.isIn
  have HK := Lib.hid hk
  have hCw : w.heap.size ≤ w1.heap.size := hk.size
  clear hp ho hk
  obtain ⟨xid, ⟨xoa, xolen, xocap, xol⟩, xia, xn, xcap, xms, xlife, xwant⟩ := x
  have HC := Lib.hid ((Box.new w1 39 #[.int .i64 xid, .slice xoa xolen xocap, .slice xia xn xcap, .int .i64 xlife, .int .i64 xwant]).next (.cells #[.int .u8 5, .int .u8 6] 5))
  have hy : Blk ((w1.alloc (.cells #[.int .i64 xid, .slice xoa xolen xocap, .slice xia xn xcap, .int .i64 xlife, .int .i64 xwant] 39)).alloc (.cells #[.int .u8 5, .int .u8 6] 5)) .u8 5 (w1.heap.size + 1) [5, 6] := by
    have h := Box.new (w1.alloc (.cells #[.int .i64 xid, .slice xoa xolen xocap, .slice xia xn xcap, .int .i64 xlife, .int .i64 xwant] 39)) 5 #[.int .u8 5, .int .u8 6]
    rw [World.size_alloc] at h
    exact h
  have hy2 : RY.In ⟨some ⟨w1.heap.size + 1, 0, none⟩, 2, 2, [5, 6]⟩ _ := RY.ofBlk hy (by decide) (by decide)
  have HY := Lib.hid hy2
  clear hy2
  clear hy
  replace HXI := Lib.hid ((HXI.out.keeps ((Keeps.refl _).alloc (.cells #[.int .i64 xid, .slice xoa xolen xocap, .slice xia xn xcap, .int .i64 xlife, .int .i64 xwant] 39))).keeps ((Keeps.refl _).alloc (.cells #[.int .u8 5, .int .u8 6] 5)))
  replace HK := Lib.hid ((HK.out.alloc (.cells #[.int .i64 xid, .slice xoa xolen xocap, .slice xia xn xcap, .int .i64 xlife, .int .i64 xwant] 39)).alloc (.cells #[.int .u8 5, .int .u8 6] 5))
  go_wp2_with fail
  (with_reducible refine (HWR.out ⟨xid, ⟨xoa, xolen, xocap, xol⟩, xia, xn, xcap, xms, xlife, xwant⟩ ⟨some ⟨w1.heap.size + 1, 0, none⟩, 2, 2, [5, 6]⟩ _ (by exact HXI.out) (by exact HY.out) (by exact HXP.out) rfl).mono ?_)
  rintro e w2 ⟨y, rfl, hp, ho, hk⟩
  have HYP := Lib.hid hp
  have HYO : Hid (y.Own w2 (w1.heap.size + 1)) := Lib.hid (ho.mono (by simp))
  replace HK := Lib.hid (HK.out.trans hk)
  replace HC := Lib.hid (HC.out.keeps hk)
  clear hp ho hk HXI HXP HY
  obtain ⟨yid, ⟨yoa, yolen, yocap, yol⟩, yia, yn, ycap, yms, ylife, ywant⟩ := y
  have c0 := HC.out.cell 0 _ rfl
  have c1 := HC.out.cell 1 _ rfl
  have c2 := HC.out.cell 2 _ rfl
  have c3 := HC.out.cell 3 _ rfl
  have c4 := HC.out.cell 4 _ rfl
  have cl := HC.out.lt
  have cf := HC.out.frozen
  obtain ⟨C, hC⟩ : ∃ C, C = w1.heap.size := ⟨_, rfl⟩
  rw [← hC] at HYO HC cl hCw c0 c1 c2 c3 c4 cf ⊢
  clear hC
  go_wp2_with fail
  have HYI := Lib.hid (HYO.out.putC (Nat.lt_succ_self _) ⟨yid, ⟨yoa, yolen, yocap, yol⟩, yia, yn, ycap, yms, ylife, ywant⟩).isIn
  have HK2 := Lib.hid (HK.out.putC hCw ⟨yid, ⟨yoa, yolen, yocap, yol⟩, yia, yn, ycap, yms, ylife, ywant⟩)
  (with_reducible refine (HSE.out ⟨yid, ⟨yoa, yolen, yocap, yol⟩, yia, yn, ycap, yms, ylife, ywant⟩ _ (by exact HYI.out) (by exact HYP.out)).mono ?_)
  rintro e w3 ⟨z, rfl, hz, hzi, hk⟩
  have HZL := Lib.hid hz
  have HZI := Lib.hid hzi
  replace HK := Lib.hid (HK2.out.trans hk)
  clear hz hzi hk HK2 HYI HC c0 c1 c2 c3 c4 cl cf
  obtain ⟨za, zlen, zcap, zl⟩ := z
  have hy : Blk (w3.alloc (.cells #[.int .u8 5, .int .u8 6, .int .u8 0] 5)) .u8 5 w3.heap.size [5, 6, 0] := Box.new w3 5 #[.int .u8 5, .int .u8 6, .int .u8 0]
  have hy2 : RY.In ⟨some ⟨w3.heap.size, 0, none⟩, 3, 3, [5, 6, 0]⟩ _ := RY.ofBlk hy (by decide) (by decide)
  have HY := Lib.hid hy2
  clear hy2
  clear hy
  replace HZI := Lib.hid (HZI.out.keeps ((Keeps.refl _).alloc (.cells #[.int .u8 5, .int .u8 6, .int .u8 0] 5)))
  replace HK := Lib.hid (HK.out.alloc (.cells #[.int .u8 5, .int .u8 6, .int .u8 0] 5))
  go_wp2_with fail
  (with_reducible refine (bytesEq_any ⟨za, zlen, zcap, zl⟩ ⟨some ⟨w3.heap.size, 0, none⟩, 3, 3, [5, 6, 0]⟩ _ (by exact HZI.out) (by exact HY.out)).mono ?_)
  rw [show eqY ⟨za, zlen, zcap, zl⟩ ⟨some ⟨w3.heap.size, 0, none⟩, 3, 3, [5, 6, 0]⟩ = true from decide_eq_true HZL.out]
  rintro e w4 ⟨rfl, rfl⟩
  go_wp2_with fail
  go_ret
  exact ⟨rfl, HK.out⟩
end Go.Proofs.Ytcophhdlcjemeaa
