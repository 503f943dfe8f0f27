/- The walks of package bits, 8: Parse, Of. -/
import Derived.Test.YtkbdpdcandpfdaaW13
import Derived.Test.YtkbdpdcandpfdaaW11
import Derived.Test.YtkbdpdcandpfdaaW15
namespace Go.Proofs.Ytkbdpdcandpfdaa
open Go.RowKit
set_option linter.unusedVariables false
set_option linter.unusedSimpArgs false

theorem Res.eqP {w w' : World} {e : Ending} {r r' : List Bool × Int} (hr : r = r') (h : Res w w' e r') : Res w w' e r := by subst hr; exact h
def parseRes (s : ByteArray) : List Bool × Int := if s.size ≤ 4096 then (parseBits s, parseErr s) else ([], 3)
theorem blank_bits (v : Int) (n : Nat) (w : World) (hv : v = n) (h1 : n ≤ 1000000) :
    Calls Try.prog 61 #[.int .i64 v] w fun e w' => ∃ g, e = .returned (.agg #[.int .i64 n, .slice (some ⟨g, 0, none⟩) ((n + 7) / 8) ((n + 7) / 8)]) ∧
      Blk w' .u8 5 g (pack (List.replicate n false)) ∧ w.heap.size ≤ g ∧ Keeps w w' := by
  rw [pack_blank]
  exact blank_any v n w hv h1

set_option maxHeartbeats 400000 in
theorem parse_long (s : ByteArray) (w : World) (hm : 4096 < s.size) (h63 : s.size ≤ 9223372036854775807) :
    Calls Try.prog 27 #[.string s] w fun e w' => e = .returned (.tuple #[RB.zero.val, .int .i64 3]) ∧ Keeps w w' := by
  go_enter Try.func27, Try.ntmps27
  go_wp2_with fail
  refine bodyPost_ret (by simp [results, Try.results27, go_sem, RB.val, RB.zero]) rfl ⟨rfl, (Keeps.refl _).alloc _⟩

set_option maxRecDepth 100000 in
set_option maxHeartbeats 1000000 in
theorem parse_ok (s : ByteArray) (w : World) (hm : s.size ≤ 4096) :
    Calls Try.prog 27 #[.string s] w fun e w' => Res w w' e (parseBits s, parseErr s) := by
  have hd : decide ((4096 : Int) < s.size) = false := by simp; omega
  have HZ := Lib.hid (Box.new w 32 #[.int .i64 0, .slice none 0 0])
  have HK := Lib.hid ((Keeps.refl w).alloc (.cells #[.int .i64 0, .slice none 0 0] 32))
  go_enter Try.func27, Try.ntmps27
  go_wp2_with fail
  with_reducible refine (blank_bits _ s.size _ (by omega) (by omega)).mono ?_
  rintro e w1 ⟨g, rfl, hblk, hg, hk1⟩
  have HBL := Lib.hid hblk
  have HZ1 := Lib.hid (HZ.out.keeps hk1)
  have HK1 := Lib.hid (HK.out.trans hk1)
  have hs1 := HZ1.out.lt
  have hs2 := hblk.lt
  rw [World.size_alloc] at hg
  have HTL := Lib.hid (textBits_len s)
  clear hk1 hblk HZ HK
  go_wp2_with fail
  clear hd
  go_loopw [15] (fun i wr => ∃ k : Nat, k ≤ s.size ∧ i = .int .i64 k ∧ Hid (∀ j (hj : j < s.size), j < k → digitB s[j] = true) ∧ Hid (Blk wr .u8 5 g (pack (ofTo (textBits s) k))) ∧
      Hid (Box wr w.heap.size 32 #[.int .i64 0, .slice none 0 0]) ∧ Hid (Box wr w1.heap.size 32 #[.int .i64 s.size, .slice (some ⟨g, 0, none⟩) ((s.size + 7) / 8) ((s.size + 7) / 8)]) ∧ Hid (Keeps w wr)) (fun i _ => s.size - (intOf i).toNat)
  case atStart => exact ⟨0, by omega, rfl, fun j _ h => absurd h (by omega), by rw [ofTo_zero, HTL.out]; exact HBL.out.next _, HZ1.out.next _, Box.new _ _ _, HK1.out.alloc _⟩
  case round =>
    clear HBL HZ1 HK1
    obtain ⟨k, hk, rfl, HD, HB, HX, HY, HK⟩ := hrel
    have hx0 := HX.out.cell 0 _ rfl
    have hx1 := HX.out.cell 1 _ rfl
    have hxf := HX.out.frozen
    have hy0 := HY.out.cell 0 _ rfl
    have hy1 := HY.out.cell 1 _ rfl
    have hxl := HX.out.lt
    by_cases hlt : k < s.size
    · have hcc : s[k] = 48 ∨ s[k] = 49 ∨ digitB s[k] = false := by
        by_cases h1 : s[k] = 48
        · exact .inl h1
        · by_cases h2 : s[k] = 49
          · exact .inr (.inl h2)
          · refine .inr (.inr ?_)
            simp [digitB, h1, h2]
      obtain ⟨c, hc⟩ : ∃ c, c = s[k] := ⟨_, rfl⟩
      have HC := Lib.hid hc
      rw [← hc] at hcc
      have hidx : ∀ w, (Instr.index 9 (.string s) (.int .i64 (k : Int))).run Try.prog w = .ok (.int .u8 (c.toNat : Int)) w := by
        intro w
        rw [hc, run_index_string _ _ _ _ _ Try.underlying9, dif_pos ⟨by omega, by omega⟩]
        simp only [Int.toNat_natCast]
      clear hc
      have HG := Lib.hid (textBits_getD s k hlt)
      rw [← HC.out] at HG
      have HD2 : Hid (digitB c = true → ∀ j (hj : j < s.size), j < k + 1 → digitB s[j] = true) := by
        intro h j hj hjk
        by_cases hjk' : j = k
        · subst hjk'; rw [← HC.out]; exact h
        · exact HD.out j hj (by omega)
      have HE : Hid (digitB c = false → s.data.toList.all digitB = false) := by
        intro h
        rw [Bool.eq_false_iff]
        intro hh
        rw [List.all_eq_true] at hh
        have := hh s[k] (by
          have h' : k < s.data.size := hlt
          have : s[k] = s.data[k] := rfl
          rw [this, Array.mem_toList_iff]
          exact Array.getElem_mem h')
        rw [← HC.out, h] at this
        cases this
      have hlen := ofTo_len (textBits s) k (by rw [HTL.out]; exact hk)
      rw [HTL.out] at hlen
      have HLEN := Lib.hid hlen
      clear HC HD hlen
      rcases hcc with rfl | rfl | hcc
      · go_wp2_with fail
        go_roundw
        case rel => exact ⟨k + 1, by omega, by go_num, HD2.out rfl, by rw [ofTo_no _ _ (by rw [HTL.out]; exact hlt) HG.out]; exact HB.out, HX, HY, HK⟩
        case measure => simp [intOf]; omega
      · go_wp2_with fail
        with_reducible refine (set_ok _ g _ _ (ofTo (textBits s) k) _ k _ rfl HB.out (by rw [HLEN.out]) (by rw [HLEN.out]; omega) (Nat.le_refl _) (by omega) (by rw [HLEN.out]; omega)).mono ?_
        rintro e w3 ⟨rfl, hbl, hkb⟩
        have HB3 : Hid (Blk w3 .u8 5 g (pack (ofTo (textBits s) (k + 1)))) := by
          rw [ofTo_yes _ _ (by rw [HTL.out]; exact hlt) HG.out]; exact hbl
        have HX3 := Lib.hid (HX.out.keepsBut hkb (by omega))
        have HY3 := Lib.hid (HY.out.keepsBut hkb (by omega))
        have HK3 := Lib.hid (KeepsBut.keeps HK.out hkb (by omega))
        clear hbl hkb hx0 hx1 hxf hy0 hy1 HB HX HY HK
        go_wp2_with fail
        go_roundw
        case rel => exact ⟨k + 1, by omega, by go_num, HD2.out rfl, HB3, HX3, HY3, HK3⟩
        case measure => simp [intOf]; omega
      · have hn1 : ((c.toNat : Int) == 49) = false := by
          rw [beq_eq_false_iff_ne]
          intro h
          have : c = 49 := UInt8.toNat_inj.1 (by simpa using (by omega : c.toNat = 49))
          subst this; simp [digitB] at hcc
        have hn2 : ((c.toNat : Int) == 48) = false := by
          rw [beq_eq_false_iff_ne]
          intro h
          have : c = 48 := UInt8.toNat_inj.1 (by simpa using (by omega : c.toNat = 48))
          subst this; simp [digitB] at hcc
        have HR := Lib.hid (parse_no s (HE.out hcc))
        clear hcc HE HD2
        go_wp2_with fail
        refine bodyPost_ret (by simp [results, Try.results27, go_sem, RB.val, RB.zero, *]) rfl (Res.no2 (c := 11) (by rw [HR.out.1, HR.out.2]) ⟨rfl, (HK.out.setCell (by simp) _).setCell (by simp) _⟩)
    · obtain rfl : k = s.size := by omega
      have HALL : Hid (s.data.toList.all digitB = true) := by
        show _ = true
        rw [List.all_eq_true]
        intro c hc
        obtain ⟨j, hj, rfl⟩ := List.getElem_of_mem hc
        exact HD.out j (by simpa using hj) (by simpa using hj)
      have HR := Lib.hid (parse_yes s HALL.out)
      go_wp2_with fail
      refine bodyPost_ret (by simp [results, Try.results27, go_sem, *]) rfl (Res.eqP (r' := (textBits s, 0)) (by rw [HR.out.1, HR.out.2]) ⟨⟨s.size, some ⟨g, 0, none⟩, (s.size + 7) / 8, (s.size + 7) / 8, pack (textBits s)⟩, rfl, ?_, fun a ha => by cases ha; simp only; omega, ?_⟩)
      · have hb := HB.out
        have e := ofTo_all (textBits s)
        rw [HTL.out] at e
        rw [e] at hb
        exact ((hb.keepsBut (KeepsBut.setCell _ _ _ _) (by omega)).keepsBut (KeepsBut.setCell _ _ _ _) (by omega)).is' _ HTL.out hm _ (Nat.le_refl _) (by omega)
      · exact (HK.out.setCell (by simp) _).setCell (by simp) _
theorem parse_any (s : ByteArray) (w : World) (h63 : s.size ≤ 9223372036854775807) : Calls Try.prog 27 #[.string s] w fun e w' => Res w w' e (parseRes s) := by
  unfold parseRes
  by_cases h : s.size ≤ 4096
  · rw [if_pos h]; exact parse_ok s w h
  · rw [if_neg h]; exact (parse_long s w (by omega) h63).mono fun e w' h => Res.no h
theorem rparse_all (s : ByteArray) (w : World) (h63 : s.size ≤ 9223372036854775807) : Calls Try.prog 28 #[.string s] w fun e w' => Res w w' e (parseRes s) := by
  unfold parseRes
  by_cases h : s.size ≤ 4096
  · rw [if_pos h]; exact rparse_any s w h
  · rw [if_neg h]; exact (rparse_long s w (by omega) h63).mono fun e w' h => Res.no h
end Go.Proofs.Ytkbdpdcandpfdaa
