/- The reader: take, truths. -/
import Derived.Test.YtmjodcackmjllaaQ5
import Derived.Test.YtmjodcackmjllaaW3
import Derived.Deep.RegionHeld3
import Derived.Deep.DeepCutAuto
namespace Go.Proofs.Ytmjodcackmjllaa
open Go.RowKit
set_option linter.unusedVariables false
set_option linter.unusedSimpArgs false
/-- the number of s bytes from p on, the highest first -/
def numB (l : List Nat) (p : Nat) : Nat → Nat
  | 0 => 0
  | s + 1 => 256 * numB l p s + l.getD (p + s) 0
theorem numB_lt (l : List Nat) (hl : ∀ x ∈ l, x < 256) (p s : Nat) : numB l p s < 256 ^ s := by
  induction s with
  | zero => simp [numB]
  | succ s ih =>
    have := getD_lt hl (p + s)
    simp only [numB, Nat.pow_succ]
    omega
theorem byte_unpack (l : List Nat) (hl : ∀ x ∈ l, x < 256) (h : l.length ≤ 512) (j : Nat) : byteOf (unpack (8 * l.length) l) j = l.getD j 0 := by
  have := pack_unpack (chk_bytes l h) hl
  rw [Int.toNat_natCast] at this
  rw [← pack_getD_all, ← this]
theorem getTo_bytes (l : List Nat) (hl : ∀ x ∈ l, x < 256) (h : l.length ≤ 512) (p s : Nat) (hp : p + s ≤ l.length) : getTo (unpack (8 * l.length) l) (8 * p) (8 * s) = numB l p s := by
  induction s with
  | zero => simp [numB, getTo_zero]
  | succ s ih =>
    have hb := byte_unpack l hl h (p + s)
    simp only [numB]
    rw [← hb, ← ih (by omega), show 8 * (s + 1) = 8 * s + 1 + 1 + 1 + 1 + 1 + 1 + 1 + 1 by omega]
    have hu := unpack_len (8 * l.length) l
    rw [getTo_succ _ _ _ (by omega), getTo_succ _ _ _ (by omega), getTo_succ _ _ _ (by omega), getTo_succ _ _ _ (by omega), getTo_succ _ _ _ (by omega), getTo_succ _ _ _ (by omega), getTo_succ _ _ _ (by omega), getTo_succ _ _ _ (by omega)]
    unfold byteOf
    rw [show 8 * (p + s) = 8 * p + 8 * s by omega]
    simp only [Nat.add_assoc, Nat.reduceAdd]
    omega
/-- a reader that stands behind p of these bytes -/
def Rd (w : World) (B : Nat) (a : Option Addr) (cap : Nat) (l : List Nat) (p : Nat) : Prop := Box w B 110 #[.int .i64 (8 * (l.length : Int)), .slice a l.length cap, .int .i64 (8 * (p : Int))]
/-- bytes that lie there, no more than bits may be -/
structure By (w : World) (a : Option Addr) (cap : Nat) (l : List Nat) : Prop where
  row : RowV w a l.length (u8s l)
  hcap : l.length ≤ cap
  hmax : cap ≤ 9223372036854775807
  len : l.length ≤ 512
  byte : ∀ x ∈ l, x < 256
theorem By.keeps {w w' : World} {a : Option Addr} {cap : Nat} {l : List Nat} (h : By w a cap l) (hk : Keeps w w') : By w' a cap l := ⟨h.row.keeps hk, h.hcap, h.hmax, h.len, h.byte⟩
theorem By.isIn {w : World} {a : Option Addr} {cap : Nat} {l : List Nat} (h : By w a cap l) : (RB.mk (8 * (l.length : Int)) a l.length cap l).In w := ⟨by have := h.len; simp only; omega, by have := h.len; simp only; omega, h.hcap, h.hmax, h.byte, h.row.row8⟩
theorem By.chk {w : World} {a : Option Addr} {cap : Nat} {l : List Nat} (h : By w a cap l) : Go.Proofs.Ytmjodcackmjllaa.chk (8 * (l.length : Int)) l = true := by
  have := chk_bytes l h.len
  rwa [show ((8 * l.length : Nat) : Int) = 8 * (l.length : Int) by omega] at this
theorem By.is {w : World} {a : Option Addr} {cap : Nat} {l : List Nat} (h : By w a cap l) : (RB.mk (8 * (l.length : Int)) a l.length cap l).Is w (unpack (8 * l.length) l) := by
  have := h.isIn.is h.chk
  rwa [show (RB.mk (8 * (l.length : Int)) a l.length cap l).n.toNat = 8 * l.length by simp only; omega] at this
def tkV (l : List Nat) (p s : Nat) : Int := if p + s ≤ l.length then (numB l p s : Int) else -1
def tkP (l : List Nat) (p s : Nat) : Nat := if p + s ≤ l.length then p + s else p
set_option maxRecDepth 100000 in
set_option maxHeartbeats 1000000 in
theorem take_any (B : Nat) (a : Option Addr) (cap : Nat) (l : List Nat) (p s : Nat) (sv : Int) (w : World) (hs : sv = s) (h7 : s ≤ 7) (h1 : 1 ≤ s) (hr : Rd w B a cap l p) (hb : By w a cap l) (hp : p ≤ l.length) :
    Calls Try.prog 94 #[.pointer (some ⟨B, 0, none⟩), .int .i64 sv] w fun e w' => e = .returned (.int .i64 (tkV l p s)) ∧ Rd w' B a cap l (tkP l p s) ∧ KeepsBut B w w' := by
  subst hs
  have HR : Hid (Box w B 110 #[.int .i64 (8 * (l.length : Int)), .slice a l.length cap, .int .i64 (8 * (p : Int))]) := Lib.hid hr
  have HB := Lib.hid hb
  have hl := hb.len
  have HD : Hid (Box w.drew B 110 #[.int .i64 (8 * (l.length : Int)), .slice a l.length cap, .int .i64 (8 * (p : Int))]) := Lib.hid (hr.keeps (Keeps.refl w).drew)
  have hws : IntKind.i64.wrap (8 * (s : Int)) = 8 * (s : Int) := by simp [IntKind.wrap, IntKind.bits, IntKind.signed]; omega
  have hd0 := HD.out.cell 0 _ rfl
  have hd1 := HD.out.cell 1 _ rfl
  have hd2 := HD.out.cell 2 _ rfl
  clear hr hb
  by_cases hfit : p + s ≤ l.length
  · have hV : tkV l p s = (numB l p s : Nat) := by unfold tkV; rw [if_pos hfit]
    have hP : tkP l p s = p + s := by unfold tkP; rw [if_pos hfit]
    have hG := getTo_bytes l HB.out.byte HB.out.len p s hfit
    have hN : numB l p s < 72057594037927936 := Nat.lt_of_lt_of_le (numB_lt l HB.out.byte p s) (Nat.pow_le_pow_right (by decide) h7 : _ ≤ 256 ^ 7)
    rw [hV, hP]
    obtain ⟨N, hNN⟩ : ∃ N, N = numB l p s := ⟨_, rfl⟩
    rw [← hNN] at hG hN ⊢
    have HG := Lib.hid hG
    clear hV hP hG hNN
    go_enter Try.func94, Try.ntmps94
    go_upto_region 1 with fail
    go_region_held3 (fun w' => w'.cell? ⟨B, 0, none⟩ = some (.int .i64 (8 * (l.length : Int))) ∧ w'.cell? ⟨B, 1, none⟩ = some (.slice a l.length cap) ∧ w'.cell? ⟨B, 2, none⟩ = some (.int .i64 (8 * (p : Int))))
      ((first | exact ⟨HB1.out.cell 0 _ rfl, HB1.out.cell 1 _ rfl, HB1.out.cell 2 _ rfl⟩ | exact ⟨hd0, hd1, hd2⟩))
      (first | (go_at_call 103; (with_reducible refine (get_ok ⟨8 * (l.length : Int), a, l.length, cap, l⟩ (unpack (8 * l.length) l) (8 * p) (8 * s) _ _ _ (by omega) (by omega) (by exact (HB.out.keeps (Keeps.refl w).drew).is) (by omega) (by rw [unpack_len]; omega)).mono ?_); rw [HG.out]; rintro e u ⟨rfl, hk⟩; have HB1 := Lib.hid (HD.out.keeps hk); have HK1 := Lib.hid ((Keeps.refl w).drew.trans hk); clear hk))
    all_goals
      clear hd0 hd1 hd2
      have b0 := HB1.out.cell 0 _ rfl
      have b1 := HB1.out.cell 1 _ rfl
      have b2 := HB1.out.cell 2 _ rfl
      have bl := HB1.out.lt
      have bf := HB1.out.frozen
      go_wp2_with fail
      go_ret
      refine ⟨rfl, ?_, (HK1.out.but B).trans (KeepsBut.setCell _ _ _ _)⟩
      have := heap_setCell_same u B 2 _ _ (.int .i64 (8 * (p : Int) + 8 * (s : Int))) HB1.out
      unfold Rd
      rw [show 8 * ((p + s : Nat) : Int) = 8 * (p : Int) + 8 * (s : Int) by omega]
      exact this
  · have hV : tkV l p s = -1 := by unfold tkV; rw [if_neg hfit]
    have hP : tkP l p s = p := by unfold tkP; rw [if_neg hfit]
    have HA : Hid (argOk (8 * (l.length : Int)) (8 * (p : Int)) (8 * (s : Int)) = false) := Lib.hid (by unfold argOk; simp; omega)
    rw [hV, hP]
    clear hV hP
    go_enter Try.func94, Try.ntmps94
    go_upto_region 1 with fail
    go_region_held3 (fun w' => w'.cell? ⟨B, 0, none⟩ = some (.int .i64 (8 * (l.length : Int))) ∧ w'.cell? ⟨B, 1, none⟩ = some (.slice a l.length cap) ∧ w'.cell? ⟨B, 2, none⟩ = some (.int .i64 (8 * (p : Int))))
      ((first | exact ⟨HB1.out.cell 0 _ rfl, HB1.out.cell 1 _ rfl, HB1.out.cell 2 _ rfl⟩ | exact ⟨hd0, hd1, hd2⟩))
      (first | (go_at_call 103; (with_reducible refine (get_arg ⟨8 * (l.length : Int), a, l.length, cap, l⟩ _ _ _ (by exact (HB.out.keeps (Keeps.refl w).drew).isIn) (by exact HB.out.chk) (by first | exact HA.out | (rw [hws]; exact HA.out)) (by omega) (by omega)).mono ?_); rintro e u ⟨rfl, hk⟩; have HB1 := Lib.hid (HD.out.keeps hk); have HK1 := Lib.hid ((Keeps.refl w).drew.trans hk); clear hk))
    all_goals
      clear hd0 hd1 hd2
      go_wp2_with fail
      go_ret
      exact ⟨rfl, HB1.out, HK1.out.but B⟩
/-- the truths of a number -/
def truthAt (c : Int) (i : Nat) : Bool := decide (c / 2 ^ i % 2 = 1)
def truthsOf (c : Int) (n : Nat) : List Bool := (List.range n).map (truthAt c)
theorem truthsOf_len (c : Int) (n : Nat) : (truthsOf c n).length = n := by simp [truthsOf]
theorem and_at_fin : ∀ k : Fin 8, ∀ x : Fin 257, (bits .and .i64 (((x.val : Int) - 1) / 2 ^ k.val) 1 == 1) = truthAt ((x.val : Int) - 1) k.val := by decide +kernel
theorem and_at (c : Int) (k : Nat) (hk : k < 8) (h1 : -1 ≤ c) (h2 : c < 256) : (bits .and .i64 (c / 2 ^ k) 1 == 1) = truthAt c k := by
  have := and_at_fin ⟨k, hk⟩ ⟨(c + 1).toNat, by omega⟩
  simp only at this
  rwa [show (((c + 1).toNat : Nat) : Int) - 1 = c by omega] at this
theorem Box.put {w : World} {g t : Nat} {cs : Array Value} (h : Box w g t cs) (i : Nat) (v : Value) : Box (w.setCell ⟨g, i, none⟩ v) g t (cs.setIfInBounds i v) := heap_setCell_same w g i cs t v h
/-- the first k truths of n laid -/
def trTo (c : Int) (n k : Nat) : List Bool := truthsOf c k ++ List.replicate (n - k) false
theorem trTo_zero (c : Int) (n : Nat) : trTo c n 0 = List.replicate n false := by simp [trTo, truthsOf]
theorem trTo_all (c : Int) (n : Nat) : trTo c n n = truthsOf c n := by simp [trTo]
theorem trTo_len (c : Int) (n k : Nat) (h : k ≤ n) : (trTo c n k).length = n := by simp [trTo, truthsOf_len]; omega
theorem trTo_succ (c : Int) (n k : Nat) (h : k < n) : (trTo c n k).set k (truthAt c k) = trTo c n (k + 1) := by
  unfold trTo truthsOf
  rw [List.range_succ, List.map_append, List.set_append_right _ _ (by simp)]
  simp only [List.length_map, List.length_range, Nat.sub_self, List.map_cons, List.map_nil, List.append_assoc]
  congr 1
  rw [show n - k = (n - (k + 1)) + 1 by omega, List.replicate_succ]
  rfl
theorem tkV_one (l : List Nat) (hl : ∀ x ∈ l, x < 256) (p : Nat) : -1 ≤ tkV l p 1 ∧ tkV l p 1 < 256 := by
  have := numB_lt l hl p 1
  unfold tkV
  split <;> omega
theorem infoB9 : (Try.prog.info? 4).map (fun i => (i.zero, i.size, i.bytes)) = some (some (.bool false), 1, 1) := by kernel_rfl
theorem made_false (n : Nat) : madeCells #[.bool false] n = Array.replicate n (.bool false) := by
  unfold madeCells
  apply Array.ext
  · simp
  · intro i h1 h2
    simp [Nat.mod_one]
set_option maxRecDepth 100000 in
set_option maxHeartbeats 1000000 in
theorem rdtruths_any (B : Nat) (a : Option Addr) (cap : Nat) (l : List Nat) (p n : Nat) (nv : Int) (w : World) (hn : nv = n) (h8 : n ≤ 8) (hr : Rd w B a cap l p) (hb : By w a cap l) (hp : p ≤ l.length) :
    Calls Try.prog 95 #[.pointer (some ⟨B, 0, none⟩), .int .i64 nv] w fun e w' => ∃ g, e = .returned (.slice (some ⟨g, 0, none⟩) n n) ∧ w.heap.size ≤ g ∧ Box w' g 4 ((truthsOf (tkV l p 1) n).map Value.bool).toArray ∧ Rd w' B a cap l (tkP l p 1) ∧ KeepsBut B w w' := by
  subst hn
  have hBl : B < w.heap.size := Box.lt hr
  have HR := Lib.hid hr
  have HB := Lib.hid hb
  have hc := tkV_one l hb.byte p
  obtain ⟨P', hP'⟩ : ∃ P', P' = tkP l p 1 := ⟨_, rfl⟩
  obtain ⟨c, hcc⟩ : ∃ c, c = tkV l p 1 := ⟨_, rfl⟩
  have HT : Hid (∀ w, Rd w B a cap l p → By w a cap l → Calls Try.prog 94 #[.pointer (some ⟨B, 0, none⟩), .int .i64 1] w fun e w' => e = .returned (.int .i64 c) ∧ Rd w' B a cap l P' ∧ KeepsBut B w w') := Lib.hid (by rw [hcc, hP']; exact fun w h1 h2 => take_any B a cap l p 1 1 w rfl (by decide) (by decide) h1 h2 hp)
  rw [← hcc] at hc ⊢
  rw [← hP']
  clear hr hb hcc hP'
  have hmk : ∀ w' : World, (Instr.makeSlice 22 (.int .i64 n) (.int .i64 n)).run Try.prog w' = .ok (.slice (some ⟨w'.heap.size, 0, none⟩) n n) (w'.alloc (.cells (Array.replicate n (.bool false)) 4)) := fun w' => by
    have := run_make_row' (P := Try.prog) 22 4 (.bool false) 1 Try.underlying22 infoB9 rfl .i64 .i64 n (by omega) (by omega) w'
    rw [← made_false]
    exact this
  go_enter Try.func95, Try.ntmps95
  go_wp2_with fail
  with_reducible refine (HT.out _ (by exact HR.out) (by exact HB.out)).mono ?_
  rintro e w1 ⟨rfl, hr1, hk1⟩
  have HR1 := Lib.hid hr1
  have HK1 := Lib.hid hk1
  clear hr1 hk1
  have HBX := Lib.hid (Box.new w1 4 (Array.replicate n (.bool false)))
  have HK2 := Lib.hid (HK1.out.trans (((Keeps.refl w1).alloc (.cells (Array.replicate n (.bool false)) 4)).but B))
  have HR2 : Hid (Rd (w1.alloc (.cells (Array.replicate n (.bool false)) 4)) B a cap l P') := Lib.hid (Box.next HR1.out _)
  have hsz1 := HK1.out.size
  have hBl1 : B < w1.heap.size := Box.lt HR1.out
  clear HK1 HR1
  go_wp2_with fail
  go_loopw [14] (fun i wr => ∃ k : Nat, k ≤ n ∧ i = .int .i64 k ∧ Hid (Box wr w1.heap.size 4 ((trTo c n k).map Value.bool).toArray) ∧ Hid (Rd wr B a cap l P') ∧ Hid (KeepsBut B w wr)) (fun i _ => n - (intOf i).toNat)
  case atStart => exact ⟨0, by omega, rfl, by rw [show ((trTo c n 0).map Value.bool).toArray = Array.replicate n (.bool false) by rw [trTo_zero]; simp]; exact HBX, HR2, HK2⟩
  case round =>
    clear HBX HR2 HK2
    obtain ⟨k, hk, rfl, HBX, HR, HK⟩ := hrel
    by_cases hlt : k < n
    · have hxl := HBX.out.lt
      have hxf := HBX.out.frozen
      have hxc := HBX.out.cell k (.bool ((trTo c n k).getD k false)) (by simp [trTo_len c n k hk, hlt])
      have HS := Lib.hid (trTo_succ c n k hlt)
      have HAT := Lib.hid (and_at c k (by omega) hc.1 hc.2)
      go_wp2_with fail
      rw [HAT.out]
      go_roundw
      case rel =>
        refine ⟨k + 1, by omega, by go_num, ?_, Lib.hid (Box.keepsBut HR.out (KeepsBut.setCell _ _ _ _) (by omega)), Lib.hid ⟨HK.out.os, HK.out.tape, HK.out.output, by have := HK.out.size; simpa using this, fun i hi hB => ((KeepsBut.setCell wr w1.heap.size k (.bool (truthAt c k))).block i (by have := HK.out.size; omega) (by omega)).trans (HK.out.block i hi hB)⟩⟩
        have := HBX.out.put k (.bool (truthAt c k))
        rw [← HS.out]
        simpa [List.map_set] using Lib.hid this
      case measure => simp [intOf]; omega
    · obtain rfl : k = n := by omega
      go_wp2_with fail
      go_ret
      exact ⟨_, rfl, hsz1, by rw [← trTo_all]; exact HBX.out, HR.out, HK.out⟩
end Go.Proofs.Ytmjodcackmjllaa
