/- medl.Parse, 1: what is too short or too long; the head. -/
import Derived.Test.YtmjodcackmjllaaQ11
import Derived.Test.YtmjodcackmjllaaQ6
import Derived.Deep.DeepCutAuto
namespace Go.Proofs.Ytmjodcackmjllaa
open Go.RowKit
set_option linter.unusedVariables false
set_option linter.unusedSimpArgs false
theorem take_fit (B : Nat) (a : Option Addr) (cap : Nat) (l : List Nat) (p s : Nat) (sv : Int) (w : World) (hs : sv = s) (h7 : s ≤ 7) (h1 : 1 ≤ s) (hr : Rd w B a cap l p) (hb : By w a cap l) (hp : p + s ≤ l.length) :
    Calls Try.prog 94 #[.pointer (some ⟨B, 0, none⟩), .int .i64 sv] w fun e w' => e = .returned (.int .i64 (numB l p s : Nat)) ∧ Rd w' B a cap l (p + s) ∧ KeepsBut B w w' := by
  have := take_any B a cap l p s sv w hs h7 h1 hr hb (by omega)
  unfold tkV tkP at this
  rw [if_pos hp, if_pos hp] at this
  exact this
/-- how far Parse has come -/
structure PH (w cur : World) (Mb : Nat) (a : Option Addr) (cap : Nat) (l : List Nat) (mc : Array Value) (p : Nat) : Prop where
  keeps : Keeps w cur
  z : Box cur w.heap.size 25 #[.int .i64 0, .int .i64 0, .int .i64 0, .int .i64 0, .int .i64 0, .int .i64 0, .slice none 0 0, .slice none 0 0]
  r : Rd cur (w.heap.size + 1) a cap l p
  m : Box cur Mb 25 mc
  hM : w.heap.size + 1 < Mb
theorem PH.keep {w cur u : World} {Mb : Nat} {a : Option Addr} {cap : Nat} {l : List Nat} {mc : Array Value} {p : Nat} (h : PH w cur Mb a cap l mc p) (hk : Keeps cur u) : PH w u Mb a cap l mc p :=
  ⟨h.keeps.trans hk, h.z.keeps hk, Box.keeps h.r hk, h.m.keeps hk, h.hM⟩
theorem PH.take {w cur u : World} {Mb : Nat} {a : Option Addr} {cap : Nat} {l : List Nat} {mc : Array Value} {p q : Nat} (h : PH w cur Mb a cap l mc p) (hr : Rd u (w.heap.size + 1) a cap l q) (hk : KeepsBut (w.heap.size + 1) cur u) : PH w u Mb a cap l mc q :=
  ⟨KeepsBut.keeps h.keeps hk (by omega), h.z.keepsBut hk (by omega), hr, h.m.keepsBut hk (by have := h.hM; omega), h.hM⟩
theorem PH.put {w cur : World} {Mb : Nat} {a : Option Addr} {cap : Nat} {l : List Nat} {mc mc' : Array Value} {p : Nat} (h : PH w cur Mb a cap l mc p) (i : Nat) (v : Value) (hm : mc' = mc.setIfInBounds i v) : PH w (cur.setCell ⟨Mb, i, none⟩ v) Mb a cap l mc' p := by
  subst hm
  have hM := h.hM
  exact ⟨h.keeps.setCell (p := ⟨Mb, i, none⟩) (by show w.heap.size ≤ Mb; omega) v, h.z.keepsBut (KeepsBut.setCell _ _ _ _) (by omega), Box.keepsBut h.r (KeepsBut.setCell _ _ _ _) (by omega), h.m.put i v, hM⟩
theorem KeepsBut.setNew {g X : Nat} {a c : World} (h : KeepsBut g a c) (hX : a.heap.size ≤ X) (o : Nat) (u : Value) : KeepsBut g a (c.setCell ⟨X, o, none⟩ u) :=
  ⟨h.os, h.tape, h.output, by have := h.size; simpa using this, fun i hi hg => ((KeepsBut.setCell c X o u).block i (by have := h.size; omega) (by omega)).trans (h.block i hi hg)⟩
theorem PH.grown {w cur u : World} {Mb : Nat} {a : Option Addr} {cap : Nat} {l : List Nat} {mc : Array Value} {p : Nat} {o : Option Nat} (h : PH w cur Mb a cap l mc p) (hg : cur.grownBy u o) (ho : ∀ b, o = some b → Mb < b) : PH w u Mb a cap l mc p := by
  have hM := h.hM
  have hne : ∀ b, b ≤ Mb → some b ≠ o := fun b hb e => by have := ho b e.symm; omega
  exact ⟨Below.grown h.keeps hg h.keeps.size (fun b hb => by have := ho b hb; omega), (hg.block _ h.z.lt (hne _ (by omega))).trans h.z, (hg.block _ (Box.lt h.r) (hne _ (by omega))).trans h.r, (hg.block _ h.m.lt (hne _ (Nat.le_refl _))).trans h.m, hM⟩
theorem KeepsBut.low {g B : Nat} {a b c : World} (h : KeepsBut g a b) (k : Below B b c) (hB : a.heap.size ≤ B) : KeepsBut g a c :=
  ⟨(Below.os k).trans h.os, (Below.tape k).trans h.tape, (Below.output k).trans h.output, Nat.le_trans h.size (Below.size k), fun i hi hg => (Below.block k i (by omega)).trans (h.block i hi hg)⟩
set_option maxRecDepth 100000 in
set_option maxHeartbeats 2000000 in
theorem parse_short (a : Option Addr) (cap : Nat) (l : List Nat) (w : World) (h47 : l.length ≤ 140737488355328) (h : ¬ (21 ≤ l.length ∧ l.length ≤ 512)) :
    Calls Try.prog 51 #[.slice a l.length cap] w (ParsePost l w) := by
  have hgood : goodP l = false := goodP_no1 (fun hh => h ⟨hh.1, hh.2.1⟩)
  have HG := Lib.hid hgood
  have HK := Lib.hid ((Keeps.refl w).alloc (.cells #[.int .i64 0, .int .i64 0, .int .i64 0, .int .i64 0, .int .i64 0, .int .i64 0, .slice none 0 0, .slice none 0 0] 25))
  have HB := Lib.hid (Box.new w 25 #[.int .i64 0, .int .i64 0, .int .i64 0, .int .i64 0, .int .i64 0, .int .i64 0, .slice none 0 0, .slice none 0 0])
  clear hgood
  by_cases h1 : l.length < 21
  · have hd1 : decide ((l.length : Int) < 21) = true := by simp; omega
    have hd1' : decide (l.length < 21) = true := by simpa using h1
    go_enter Try.func51, Try.ntmps51
    go_wp2_with fail
    refine bodyPost_ret (v := .tuple #[zeroM.val, .int .i64 71]) (by simp [results, Try.results51, go_sem, zeroM, *]) rfl (parse_no HG.out rfl ?_)
    repeat (first | with_reducible exact HK.out | with_reducible refine Keeps.setCell ?_ (by simp) _)
  · have hd1 : decide ((l.length : Int) < 21) = false := by simp; omega
    have hd1' : decide (l.length < 21) = false := by simpa using h1
    have hd2 : decide ((4096 : Int) < 8 * (l.length : Int)) = true := by simp; omega
    have hd2' : decide (4096 < 8 * l.length) = true := by simp; omega
    go_enter Try.func51, Try.ntmps51
    go_wp2_with fail
    refine bodyPost_ret (v := .tuple #[zeroM.val, .int .i64 71]) (by simp [results, Try.results51, go_sem, zeroM, *]) rfl (parse_no HG.out rfl ?_)
    repeat (first | with_reducible exact HK.out | with_reducible refine Keeps.setCell ?_ (by simp) _)
set_option maxRecDepth 100000 in
set_option maxHeartbeats 4000000 in
theorem parse_any (a : Option Addr) (cap : Nat) (l : List Nat) (w : World) (hb : By w a cap l) (h21 : 21 ≤ l.length) :
    Calls Try.prog 51 #[.slice a l.length cap] w (ParsePost l w) := by
  have h512 := hb.len
  have HBy := Lib.hid hb
  obtain ⟨n, hn⟩ : ∃ x, x = numB l 1 1 := ⟨_, rfl⟩
  have HTn : Hid (∀ cur, Rd cur (w.heap.size + 1) a cap l 1 → Keeps w cur → Calls Try.prog 94 #[.pointer (some ⟨w.heap.size + 1, 0, none⟩), .int .i64 1] cur fun e w' => e = .returned (.int .i64 ((n : Nat) : Int)) ∧ Rd w' (w.heap.size + 1) a cap l 2 ∧ KeepsBut (w.heap.size + 1) cur w') := Lib.hid (by rw [hn]; exact fun cur h1 h2 => take_fit _ a cap l 1 1 1 cur rfl (by decide) (by decide) h1 (HBy.out.keeps h2) (by omega))
  obtain ⟨k, hk⟩ : ∃ x, x = numB l 2 1 := ⟨_, rfl⟩
  have HTk : Hid (∀ cur, Rd cur (w.heap.size + 1) a cap l 2 → Keeps w cur → Calls Try.prog 94 #[.pointer (some ⟨w.heap.size + 1, 0, none⟩), .int .i64 1] cur fun e w' => e = .returned (.int .i64 ((k : Nat) : Int)) ∧ Rd w' (w.heap.size + 1) a cap l 3 ∧ KeepsBut (w.heap.size + 1) cur w') := Lib.hid (by rw [hk]; exact fun cur h1 h2 => take_fit _ a cap l 2 1 1 cur rfl (by decide) (by decide) h1 (HBy.out.keeps h2) (by omega))
  obtain ⟨S, hS⟩ : ∃ x, x = numB l 3 4 := ⟨_, rfl⟩
  have HTS : Hid (∀ cur, Rd cur (w.heap.size + 1) a cap l 3 → Keeps w cur → Calls Try.prog 94 #[.pointer (some ⟨w.heap.size + 1, 0, none⟩), .int .i64 4] cur fun e w' => e = .returned (.int .i64 ((S : Nat) : Int)) ∧ Rd w' (w.heap.size + 1) a cap l 7 ∧ KeepsBut (w.heap.size + 1) cur w') := Lib.hid (by rw [hS]; exact fun cur h1 h2 => take_fit _ a cap l 3 4 4 cur rfl (by decide) (by decide) h1 (HBy.out.keeps h2) (by omega))
  obtain ⟨G, hG⟩ : ∃ x, x = numB l 7 4 := ⟨_, rfl⟩
  have HTG : Hid (∀ cur, Rd cur (w.heap.size + 1) a cap l 7 → Keeps w cur → Calls Try.prog 94 #[.pointer (some ⟨w.heap.size + 1, 0, none⟩), .int .i64 4] cur fun e w' => e = .returned (.int .i64 ((G : Nat) : Int)) ∧ Rd w' (w.heap.size + 1) a cap l 11 ∧ KeepsBut (w.heap.size + 1) cur w') := Lib.hid (by rw [hG]; exact fun cur h1 h2 => take_fit _ a cap l 7 4 4 cur rfl (by decide) (by decide) h1 (HBy.out.keeps h2) (by omega))
  obtain ⟨W, hW⟩ : ∃ x, x = numB l 11 4 := ⟨_, rfl⟩
  have HTW : Hid (∀ cur, Rd cur (w.heap.size + 1) a cap l 11 → Keeps w cur → Calls Try.prog 94 #[.pointer (some ⟨w.heap.size + 1, 0, none⟩), .int .i64 4] cur fun e w' => e = .returned (.int .i64 ((W : Nat) : Int)) ∧ Rd w' (w.heap.size + 1) a cap l 15 ∧ KeepsBut (w.heap.size + 1) cur w') := Lib.hid (by rw [hW]; exact fun cur h1 h2 => take_fit _ a cap l 11 4 4 cur rfl (by decide) (by decide) h1 (HBy.out.keeps h2) (by omega))
  obtain ⟨D, hD⟩ : ∃ x, x = numB l 15 1 := ⟨_, rfl⟩
  have HTD : Hid (∀ cur, Rd cur (w.heap.size + 1) a cap l 15 → Keeps w cur → Calls Try.prog 94 #[.pointer (some ⟨w.heap.size + 1, 0, none⟩), .int .i64 1] cur fun e w' => e = .returned (.int .i64 ((D : Nat) : Int)) ∧ Rd w' (w.heap.size + 1) a cap l 16 ∧ KeepsBut (w.heap.size + 1) cur w') := Lib.hid (by rw [hD]; exact fun cur h1 h2 => take_fit _ a cap l 15 1 1 cur rfl (by decide) (by decide) h1 (HBy.out.keeps h2) (by omega))
  obtain ⟨E, hE⟩ : ∃ x, x = numB l 16 1 := ⟨_, rfl⟩
  have HTE : Hid (∀ cur, Rd cur (w.heap.size + 1) a cap l 16 → Keeps w cur → Calls Try.prog 94 #[.pointer (some ⟨w.heap.size + 1, 0, none⟩), .int .i64 1] cur fun e w' => e = .returned (.int .i64 ((E : Nat) : Int)) ∧ Rd w' (w.heap.size + 1) a cap l 17 ∧ KeepsBut (w.heap.size + 1) cur w') := Lib.hid (by rw [hE]; exact fun cur h1 h2 => take_fit _ a cap l 16 1 1 cur rfl (by decide) (by decide) h1 (HBy.out.keeps h2) (by omega))
  obtain ⟨c, hc⟩ : ∃ x, x = numB l 17 1 := ⟨_, rfl⟩
  have HTC : Hid (∀ cur, n ≤ 8 → Rd cur (w.heap.size + 1) a cap l 17 → Keeps w cur → Calls Try.prog 95 #[.pointer (some ⟨w.heap.size + 1, 0, none⟩), .int .i64 ((n : Nat) : Int)] cur fun e w' => ∃ g, e = .returned (.slice (some ⟨g, 0, none⟩) n n) ∧ cur.heap.size ≤ g ∧ Box w' g 4 ((truthsOf (c : Int) n).map Value.bool).toArray ∧ Rd w' (w.heap.size + 1) a cap l 18 ∧ KeepsBut (w.heap.size + 1) cur w') := Lib.hid (fun cur h8 h1 h2 => by
    have := rdtruths_any _ a cap l 17 n n cur rfl h8 h1 (HBy.out.keeps h2) (by omega)
    unfold tkV tkP at this
    rw [if_pos (by omega), if_pos (by omega), ← hc] at this
    exact this)
  have HPM : Hid (pMedl l = ⟨n, S, G, W, D, E, .slice none 0 0, truthsOf (c : Int) n, none, 0, 0, (List.range k).map fun j => pMode l n k (18 + j * (n + 2))⟩) := Lib.hid (by unfold pMedl pNodes pModes; rw [← hn, ← hk, ← hS, ← hG, ← hW, ← hD, ← hE, ← hc])
  have HNO : Hid (¬ (n ≤ 8 ∧ k ≤ 4) → goodP l = false) := Lib.hid (fun h => goodP_no1 (fun hh => h (by rw [hn, hk]; exact hh.2.2)))
  have HYES : Hid (n ≤ 8 → k ≤ 4 → (goodP l = true ↔ medlOk (pMedl l) = true ∧ medlBytes (pMedl l) = l)) := Lib.hid (fun h1 h2 => by
    rw [goodP_iff]
    exact ⟨fun h => h.2, fun h => ⟨⟨h21, h512, by unfold pNodes; rw [← hn]; exact h1, by unfold pModes; rw [← hk]; exact h2⟩, h⟩⟩)
  clear hb hn hk hS hG hW hD hE hc
  have HK := Lib.hid (((Keeps.refl w).alloc (.cells #[.int .i64 0, .int .i64 0, .int .i64 0, .int .i64 0, .int .i64 0, .int .i64 0, .slice none 0 0, .slice none 0 0] 25)).alloc (.cells #[.int .i64 (8 * (l.length : Int)), .slice a l.length cap, .int .i64 8] 110))
  have HZ := Lib.hid ((Box.new w 25 #[.int .i64 0, .int .i64 0, .int .i64 0, .int .i64 0, .int .i64 0, .int .i64 0, .slice none 0 0, .slice none 0 0]).next (.cells #[.int .i64 (8 * (l.length : Int)), .slice a l.length cap, .int .i64 8] 110))
  have hr := Box.new (w.alloc (.cells #[.int .i64 0, .int .i64 0, .int .i64 0, .int .i64 0, .int .i64 0, .int .i64 0, .slice none 0 0, .slice none 0 0] 25)) 110 #[.int .i64 (8 * (l.length : Int)), .slice a l.length cap, .int .i64 8]
  rw [World.size_alloc] at hr
  have HR : Hid (Rd _ (w.heap.size + 1) a cap l 1) := Lib.hid hr
  clear hr
  have hd1 : decide ((l.length : Int) < 21) = false := by simp; omega
  have hd1' : decide (l.length < 21) = false := by simp; omega
  have hd2 : decide ((4096 : Int) < 8 * (l.length : Int)) = false := by simp; omega
  have hd2' : decide (4096 < 8 * l.length) = false := by simp; omega
  have h8 : 8 * (l.length : Int) ≤ 4096 := by omega
  go_enter Try.func51, Try.ntmps51
  go_wp2_with fail
  with_reducible refine (HTn.out _ (by exact HR.out) (by exact HK.out)).mono ?_
  rintro e w1 ⟨rfl, hr1, hk1⟩
  have HP1 : Hid (PH w (w1.alloc (.cells #[.int .i64 ((n : Nat) : Int), .int .i64 0, .int .i64 0, .int .i64 0, .int .i64 0, .int .i64 0, .slice none 0 0, .slice none 0 0] 25)) w1.heap.size a cap l #[.int .i64 ((n : Nat) : Int), .int .i64 0, .int .i64 0, .int .i64 0, .int .i64 0, .int .i64 0, .slice none 0 0, .slice none 0 0] 2) := Lib.hid
    ⟨(KeepsBut.keeps HK.out hk1 (by omega)).alloc _, (HZ.out.keepsBut hk1 (by omega)).next _, Box.next hr1 _, Box.new w1 25 _, by have := hk1.size; simp at this; omega⟩
  have hM := HP1.out.hM
  clear hr1 hk1 HTn HK HZ HR
  go_wp2_with fail
  with_reducible refine (HTk.out _ (by exact HP1.out.r) (by exact HP1.out.keeps)).mono ?_
  rintro e w2 ⟨rfl, hr2, hk2⟩
  have HP2 := Lib.hid (HP1.out.take hr2 hk2)
  clear hr2 hk2 HTk HP1
  go_wp2_with fail
  with_reducible refine (HTS.out _ (by exact HP2.out.r) (by exact HP2.out.keeps)).mono ?_
  rintro e w3 ⟨rfl, hr3, hk3⟩
  have HP3 := Lib.hid (HP2.out.take hr3 hk3)
  clear hr3 hk3 HTS HP2
  go_wp2_with fail
  with_reducible refine (HTG.out _ (by exact HP3.out.r) (by exact HP3.out.keeps)).mono ?_
  rintro e w4 ⟨rfl, hr4, hk4⟩
  have HP4 := Lib.hid (HP3.out.take hr4 hk4)
  clear hr4 hk4 HTG HP3
  go_wp2_with fail
  with_reducible refine (HTW.out _ (by exact HP4.out.r) (by exact HP4.out.keeps)).mono ?_
  rintro e w5 ⟨rfl, hr5, hk5⟩
  have HP5 := Lib.hid (HP4.out.take hr5 hk5)
  clear hr5 hk5 HTW HP4
  obtain ⟨Mb, hMb⟩ : ∃ Mb, Mb = w1.heap.size := ⟨_, rfl⟩
  rw [← hMb] at HP5 hM ⊢
  clear hMb
  have mf := HP5.out.m.frozen
  have m1 := HP5.out.m.cell 1 _ rfl
  have m2 := HP5.out.m.cell 2 _ rfl
  have m3 := HP5.out.m.cell 3 _ rfl
  have ml := HP5.out.m.lt
  have HP6 : Hid (PH w (((w5.setCell ⟨Mb, 1, none⟩ (.int .i64 ((S : Nat) : Int))).setCell ⟨Mb, 2, none⟩ (.int .i64 ((G : Nat) : Int))).setCell ⟨Mb, 3, none⟩ (.int .i64 ((W : Nat) : Int))) Mb a cap l #[.int .i64 ((n : Nat) : Int), .int .i64 ((S : Nat) : Int), .int .i64 ((G : Nat) : Int), .int .i64 ((W : Nat) : Int), .int .i64 0, .int .i64 0, .slice none 0 0, .slice none 0 0] 15) := Lib.hid (((HP5.out.put 1 (.int .i64 ((S : Nat) : Int)) rfl).put 2 (.int .i64 ((G : Nat) : Int)) rfl).put 3 (.int .i64 ((W : Nat) : Int)) rfl)
  clear HP5
  go_wp2_with fail
  with_reducible refine (HTD.out _ (by exact HP6.out.r) (by exact HP6.out.keeps)).mono ?_
  rintro e w7 ⟨rfl, hr7, hk7⟩
  have HP7 := Lib.hid (HP6.out.take hr7 hk7)
  clear hr7 hk7 HTD HP6 m1 m2 m3 ml mf
  go_wp2_with fail
  with_reducible refine (HTE.out _ (by exact HP7.out.r) (by exact HP7.out.keeps)).mono ?_
  rintro e w8 ⟨rfl, hr8, hk8⟩
  have HP8 := Lib.hid (HP7.out.take hr8 hk8)
  clear hr8 hk8 HTE HP7
  have mf := HP8.out.m.frozen
  have m0 := HP8.out.m.cell 0 _ rfl
  have m4 := HP8.out.m.cell 4 _ rfl
  have m5 := HP8.out.m.cell 5 _ rfl
  have ml := HP8.out.m.lt
  have HP9 : Hid (PH w ((w8.setCell ⟨Mb, 4, none⟩ (.int .i64 ((D : Nat) : Int))).setCell ⟨Mb, 5, none⟩ (.int .i64 ((E : Nat) : Int))) Mb a cap l #[.int .i64 ((n : Nat) : Int), .int .i64 ((S : Nat) : Int), .int .i64 ((G : Nat) : Int), .int .i64 ((W : Nat) : Int), .int .i64 ((D : Nat) : Int), .int .i64 ((E : Nat) : Int), .slice none 0 0, .slice none 0 0] 17) := Lib.hid ((HP8.out.put 4 (.int .i64 ((D : Nat) : Int)) rfl).put 5 (.int .i64 ((E : Nat) : Int)) rfl)
  clear HP8
  by_cases hn8 : n ≤ 8
  case neg =>
    have hdn : decide ((8 : Int) < (n : Int)) = true := by simp; omega
    have hdn' : decide (8 < n) = true := by simp; omega
    have HGO := Lib.hid (HNO.out (fun hh => hn8 hh.1))
    have z0 := HP9.out.z.cell 0 _ rfl
    have z1 := HP9.out.z.cell 1 _ rfl
    have z2 := HP9.out.z.cell 2 _ rfl
    have z3 := HP9.out.z.cell 3 _ rfl
    have z4 := HP9.out.z.cell 4 _ rfl
    have z5 := HP9.out.z.cell 5 _ rfl
    have z6 := HP9.out.z.cell 6 _ rfl
    have z7 := HP9.out.z.cell 7 _ rfl
    have zl := HP9.out.z.lt
    have zf := HP9.out.z.frozen
    clear HNO HYES HPM
    go_wp2_with fail
    refine bodyPost_ret (v := .tuple #[zeroM.val, .int .i64 71]) (by simp [results, Try.results51, go_sem, zeroM, *]) rfl (parse_no HGO.out rfl ?_)
    iterate 8 with_reducible refine Keeps.setCell ?_ (by simp) _
    exact HP9.out.keeps
  have hdn : decide ((8 : Int) < (n : Int)) = false := by simp; omega
  have hdn' : decide (8 < n) = false := by simp; omega
  by_cases hk4 : k ≤ 4
  case neg =>
    have hdk : decide ((4 : Int) < (k : Int)) = true := by simp; omega
    have hdk' : decide (4 < k) = true := by simp; omega
    have HGO := Lib.hid (HNO.out (fun hh => hk4 hh.2))
    have z0 := HP9.out.z.cell 0 _ rfl
    have z1 := HP9.out.z.cell 1 _ rfl
    have z2 := HP9.out.z.cell 2 _ rfl
    have z3 := HP9.out.z.cell 3 _ rfl
    have z4 := HP9.out.z.cell 4 _ rfl
    have z5 := HP9.out.z.cell 5 _ rfl
    have z6 := HP9.out.z.cell 6 _ rfl
    have z7 := HP9.out.z.cell 7 _ rfl
    have zl := HP9.out.z.lt
    have zf := HP9.out.z.frozen
    clear HNO HYES HPM
    go_wp2_with fail
    refine bodyPost_ret (v := .tuple #[zeroM.val, .int .i64 71]) (by simp [results, Try.results51, go_sem, zeroM, *]) rfl (parse_no HGO.out rfl ?_)
    iterate 8 with_reducible refine Keeps.setCell ?_ (by simp) _
    exact HP9.out.keeps
  have hdk : decide ((4 : Int) < (k : Int)) = false := by simp; omega
  have hdk' : decide (4 < k) = false := by simp; omega
  clear HNO
  go_wp2_with fail
  with_reducible refine (HTC.out _ hn8 (by exact HP9.out.r) (by exact HP9.out.keeps)).mono ?_
  rintro e wa ⟨gc, rfl, hgc, hbc, hra, hka⟩
  have HPA := Lib.hid (HP9.out.take hra hka)
  have hgM : Mb < gc := by have := hgc; simp at this; omega
  clear mf ml m0 m4 m5
  have mf := HPA.out.m.frozen
  have m6 := HPA.out.m.cell 6 _ rfl
  have ma := HPA.out.m.lt
  have hgl := hbc.lt
  have HPB : Hid (PH w (wa.setCell ⟨Mb, 6, none⟩ (.slice (some ⟨gc, 0, none⟩) n n)) Mb a cap l #[.int .i64 ((n : Nat) : Int), .int .i64 ((S : Nat) : Int), .int .i64 ((G : Nat) : Int), .int .i64 ((W : Nat) : Int), .int .i64 ((D : Nat) : Int), .int .i64 ((E : Nat) : Int), .slice (some ⟨gc, 0, none⟩) n n, .slice none 0 0] 18) := Lib.hid (HPA.out.put 6 (.slice (some ⟨gc, 0, none⟩) n n) rfl)
  have HCB : Hid (Box (wa.setCell ⟨Mb, 6, none⟩ (.slice (some ⟨gc, 0, none⟩) n n)) gc 4 ((truthsOf (c : Int) n).map Value.bool).toArray) := Lib.hid (hbc.keepsBut (KeepsBut.setCell _ _ _ _) (by omega))
  have HXB := Lib.hid (OwnX.nil (wa.setCell ⟨Mb, 6, none⟩ (.slice (some ⟨gc, 0, none⟩) n n)) wa.heap.size)
  have hszB : wa.heap.size ≤ (wa.setCell ⟨Mb, 6, none⟩ (.slice (some ⟨gc, 0, none⟩) n n)).heap.size := by simp
  obtain ⟨bs, hbs⟩ : ∃ bs, bs = wa.heap.size := ⟨_, rfl⟩
  rw [← hbs] at HXB hgl ma hszB
  clear hgc hbc hra hka HPA HP9 HTC
  go_wp2_with fail
  clear hbs mf m6
  go_loopw [61] (fun i wr => ∃ (j : Nat) (v : Value) (xs : List RM), j ≤ k ∧ i = .int .i64 j ∧ Hid (PH w wr Mb a cap l #[.int .i64 ((n : Nat) : Int), .int .i64 ((S : Nat) : Int), .int .i64 ((G : Nat) : Int), .int .i64 ((W : Nat) : Int), .int .i64 ((D : Nat) : Int), .int .i64 ((E : Nat) : Int), .slice (some ⟨gc, 0, none⟩) n n, v] (min (18 + j * (n + 2)) l.length)) ∧ Hid (Box wr gc 4 ((truthsOf (c : Int) n).map Value.bool).toArray) ∧ Hid (OwnX wr bs v xs) ∧ Hid (xs.map RM.p = (List.range j).map fun i => (pMode l n k (18 + i * (n + 2))).p) ∧ bs ≤ wr.heap.size) (fun i _ => k - (intOf i).toNat)
  case atStart => exact ⟨0, .slice none 0 0, [], by omega, rfl, by rw [show min (18 + 0 * (n + 2)) l.length = 18 by omega]; exact HPB, HCB, HXB, Lib.hid rfl, hszB⟩
  case round =>
    clear HPB HCB HXB hszB
    obtain ⟨j, v, xs, hj, rfl, HP, HC, HX, HXP, hsz⟩ := hrel
    by_cases hlt : j < k
    · obtain ⟨q, hq⟩ : ∃ q, q = 18 + j * (n + 2) := ⟨_, rfl⟩
      have hq2 : 18 + (j + 1) * (n + 2) = q + n + 2 := by rw [hq, Nat.add_mul]; omega
      have HQ2 := Lib.hid hq2
      rw [← hq] at HP
      have HQ := Lib.hid hq
      have HPX := Lib.hid (HP.out.keep ((Keeps.refl wr).alloc (.cells #[.slice none 0 0, .slice none 0 0, .slice none 0 0] 71)))
      have HBX := Lib.hid (Box.new wr 71 #[.slice none 0 0, .slice none 0 0, .slice none 0 0])
      have HKB := Lib.hid (((Keeps.refl wr).alloc (.cells #[.slice none 0 0, .slice none 0 0, .slice none 0 0] 71)).but (w.heap.size + 1))
      have m0 := HPX.out.m.cell 0 _ rfl
      have ml := HPX.out.m.lt
      have hvb : ∀ b, v.ownBlock = some b → b < wr.heap.size := fun b e => (HX.out.lt b e).2
      have hMr := HP.out.m.lt
      clear hq hq2
      go_wp2_with fail
      have HRX : Hid (Rd _ (w.heap.size + 1) a cap l (min q l.length)) := Lib.hid HPX.out.r
      have HV := Lib.hid hvb
      have HDX := Lib.hid (Own.nil (wr.alloc (.cells #[.slice none 0 0, .slice none 0 0, .slice none 0 0] 71)) (wr.heap.size + 1) 3)
      have hszx : wr.heap.size + 1 ≤ (wr.alloc (.cells #[.slice none 0 0, .slice none 0 0, .slice none 0 0] 71)).heap.size := by simp
      obtain ⟨wo, hwo⟩ : ∃ wo, wo = wr := ⟨_, rfl⟩
      rw [← hwo] at HP HC HX HPX HBX HKB HRX HV HDX hMr hsz hszx ⊢
      clear hvb m0 ml hwo
      go_loopw [65] (fun i ws => ∃ (t : Nat) (d : Value), t ≤ n ∧ i = .int .i64 t ∧ Hid (KeepsBut (w.heap.size + 1) wo ws) ∧ Hid (Rd ws (w.heap.size + 1) a cap l (min (q + t) l.length)) ∧ Hid (Box ws wo.heap.size 71 #[d, .slice none 0 0, .slice none 0 0]) ∧ Hid (Own ws (wo.heap.size + 1) 3 d (((List.range t).map fun i => tk l (q + i)).map (Value.int .i64))) ∧ wo.heap.size + 1 ≤ ws.heap.size) (fun i _ => n - (intOf i).toNat)
      case atStart => exact ⟨0, .slice none 0 0, by omega, rfl, HKB, HRX, HBX, HDX, hszx⟩
      case round =>
        clear HKB HRX HBX HDX hszx HPX
        obtain ⟨t, d, ht, rfl, HKB, HR, HB, HD, hszw⟩ := hrel
        by_cases htl : t < n
        · have HKW := Lib.hid (KeepsBut.keeps HP.out.keeps HKB.out (by omega))
          have HTK0 : ∀ cur, Rd cur (w.heap.size + 1) a cap l (min (q + t) l.length) → Keeps w cur → Calls Try.prog 94 #[.pointer (some ⟨w.heap.size + 1, 0, none⟩), .int .i64 1] cur fun e w' => e = .returned (.int .i64 (tk l (q + t))) ∧ Rd w' (w.heap.size + 1) a cap l (min (q + (t + 1)) l.length) ∧ KeepsBut (w.heap.size + 1) cur w' := fun cur h1 h2 => by
            have := take_any _ a cap l _ 1 1 cur rfl (by decide) (by decide) h1 (HBy.out.keeps h2) (Nat.min_le_right _ _)
            rw [tkP_one] at this
            exact this
          have hs1 : ((List.range (t + 1)).map fun i => tk l (q + i)).map (Value.int .i64) = ((List.range t).map fun i => tk l (q + i)).map (Value.int .i64) ++ [.int .i64 (tk l (q + t))] := by rw [List.range_succ]; simp
          obtain ⟨Tv, hT⟩ : ∃ T, T = tk l (q + t) := ⟨_, rfl⟩
          rw [← hT] at HTK0 hs1
          have HTK := Lib.hid HTK0
          have HS1 := Lib.hid hs1
          have hdl : (((List.range t).map fun i => tk l (q + i)).map (Value.int .i64)).length = t := by simp
          obtain ⟨L, hL⟩ : ∃ L, L = ((List.range t).map fun i => tk l (q + i)).map (Value.int .i64) := ⟨_, rfl⟩
          rw [← hL] at HD HS1 hdl
          clear HTK0 hs1 hT hL
          have HBd := Lib.hid (HB.out.keeps (Keeps.refl wr).drew)
          have HOd := Lib.hid (HD.out.keeps (Keeps.refl wr).drew)
          have HRd : Hid (Rd wr.drew (w.heap.size + 1) a cap l (min (q + t) l.length)) := Lib.hid (Box.keeps HR.out (Keeps.refl wr).drew)
          have HKd := Lib.hid (HKW.out.drew)
          have HKBd := Lib.hid (HKB.out.trans ((Keeps.refl wr).drew.but (w.heap.size + 1)))
          have x0 := HBd.out.cell 0 _ rfl
          have xl := HBd.out.lt
          have hdB : d.ownBlock ≠ some (w.heap.size + 1) := fun e => by have := (HD.out.lt _ e).1; omega
          have HDB := Lib.hid hdB
          clear hdB HB HD HR HKW HKB
          go_upto_region 16 with fail
          go_region_law (first
            | (go_simp; go_at_call 94; (with_reducible refine (HTK.out _ (by exact HRd.out) (by exact HKd.out)).mono ?_); rintro e u ⟨rfl, hru, hku⟩; have HB1 := Lib.hid (HBd.out.keepsBut hku (by omega)); have HO1 := Lib.hid (HOd.out.keepsBut hku HDB.out); have HR1 := Lib.hid hru; have HK1 := Lib.hid (HKBd.out.trans hku); have y0 := HB1.out.cell 0 _ rfl; have yl := HB1.out.lt; have hszu : wo.heap.size + 1 ≤ u.heap.size := (by omega); clear hru hku)
            | (refine step_pushI rfl (.tmp 68) (.tmp 71) rfl (wo.heap.size + 1) d L (by rfl) (by exact HO1.out.keeps ((Keeps.refl u).alloc _)) u.heap.size Tv (by rfl) (by exact Box.new u 3 #[.int .i64 Tv]) (by rw [hdl]; omega) (by simp; omega) ?_; intro v' w2 hown hbel; obtain ⟨da, dcap, hdv, -, -, -⟩ := hown.shape; have hll : (L ++ [Value.int .i64 Tv]).length = t + 1 := (by rw [List.length_append, hdl]; rfl); rw [hll] at hdv; subst hdv; have HB2 := Lib.hid ((HB1.out.next (.cells #[.int .i64 Tv] 3)).below hbel (by omega)); have HO2 := Lib.hid hown; have HR2 : Hid (Rd w2 (w.heap.size + 1) a cap l (min (q + (t + 1)) l.length)) := Lib.hid (Box.below (Box.next HR1.out _) hbel (by omega)); have HK2 := Lib.hid ((HK1.out.trans (((Keeps.refl u).alloc (.cells #[.int .i64 Tv] 3)).but (w.heap.size + 1))).low hbel (by omega)); have z0 := HB2.out.cell 0 _ rfl; have zl := HB2.out.lt; have zf := HB2.out.frozen; clear hown hbel))
          all_goals
            clear x0 xl y0 yl HBd HOd HRd HKd HKBd HB1 HO1 HR1 HK1 HTK
            go_wp2_with fail
            go_roundw
            case rel =>
              refine ⟨t + 1, .slice da (t + 1) dcap, by omega, by go_num, Lib.hid (HK2.out.setNew (show wo.heap.size ≤ wo.heap.size from Nat.le_refl _) 0 _), Lib.hid (Box.keepsBut HR2.out (KeepsBut.setCell _ _ _ _) (by omega)), Lib.hid (HB2.out.put 0 _), ?_, by simp; omega⟩
              rw [HS1.out]
              exact Lib.hid (HO2.out.keepsBut (KeepsBut.setCell _ _ _ _) (fun e => by have := (HO2.out.lt _ e).1; omega))
            case measure => simp [intOf]; omega
        · obtain rfl : t = n := by omega
          obtain ⟨da, dcap, hdv, hdc1, hdc2, -⟩ := HD.out.shape
          have hdl : (((List.range t).map fun i => tk l (q + i)).map (Value.int .i64)).length = t := by simp
          rw [hdl] at hdv hdc1
          subst hdv
          obtain ⟨va, vcap, hvv, -⟩ := HX.out.rms
          subst hvv
          have hT1 : ∀ cur, Rd cur (w.heap.size + 1) a cap l (min (q + t) l.length) → Keeps w cur → Calls Try.prog 95 #[.pointer (some ⟨w.heap.size + 1, 0, none⟩), .int .i64 ((t : Nat) : Int)] cur fun e w' => ∃ g, e = .returned (.slice (some ⟨g, 0, none⟩) t t) ∧ cur.heap.size ≤ g ∧ Box w' g 4 ((truthsOf (tk l (q + t)) t).map Value.bool).toArray ∧ Rd w' (w.heap.size + 1) a cap l (min (q + t + 1) l.length) ∧ KeepsBut (w.heap.size + 1) cur w' := fun cur h1 h2 => by
            have := rdtruths_any _ a cap l _ t t cur rfl hn8 h1 (HBy.out.keeps h2) (Nat.min_le_right _ _)
            rw [tkP_one] at this
            exact this
          have hT2 : ∀ cur, Rd cur (w.heap.size + 1) a cap l (min (q + t + 1) l.length) → Keeps w cur → Calls Try.prog 95 #[.pointer (some ⟨w.heap.size + 1, 0, none⟩), .int .i64 ((k : Nat) : Int)] cur fun e w' => ∃ g, e = .returned (.slice (some ⟨g, 0, none⟩) k k) ∧ cur.heap.size ≤ g ∧ Box w' g 4 ((truthsOf (tk l (q + t + 1)) k).map Value.bool).toArray ∧ Rd w' (w.heap.size + 1) a cap l (min (q + t + 2) l.length) ∧ KeepsBut (w.heap.size + 1) cur w' := fun cur h1 h2 => by
            have := rdtruths_any _ a cap l _ k k cur rfl (by omega) h1 (HBy.out.keeps h2) (Nat.min_le_right _ _)
            rw [tkP_one] at this
            exact this
          have HT1 := Lib.hid hT1
          have HT2 := Lib.hid hT2
          clear hT1 hT2
          have hxpm : (xs.map RM.p) ++ [((List.range t).map (fun i => tk l (q + i)), truthsOf (tk l (q + t)) t, truthsOf (tk l (q + t + 1)) k)] = (List.range (j + 1)).map fun i => (pMode l t k (18 + i * (t + 2))).p := by
            rw [HXP.out, List.range_succ (n := j), List.map_append]
            simp only [List.map_cons, List.map_nil, ← HQ.out]
            rfl
          have HXPM := Lib.hid hxpm
          have HZD := Lib.hid (show (((List.range t).map fun i => tk l (q + i))).length = t by simp)
          have HE1 := Lib.hid (truthsOf_len (tk l (q + t)) t)
          have HE2 := Lib.hid (truthsOf_len (tk l (q + t + 1)) k)
          obtain ⟨zd, hzd⟩ : ∃ z, z = (List.range t).map fun i => tk l (q + i) := ⟨_, rfl⟩
          obtain ⟨e1, he1⟩ : ∃ z, z = truthsOf (tk l (q + t)) t := ⟨_, rfl⟩
          obtain ⟨e2, he2⟩ : ∃ z, z = truthsOf (tk l (q + t + 1)) k := ⟨_, rfl⟩
          rw [← hzd] at HD HXPM HZD
          rw [← he1] at HT1 HXPM HE1
          rw [← he2] at HT2 HXPM HE2
          have hn0 : (0 : Int) ≤ (t : Int) := by omega
          clear hxpm hzd he1 he2 hdl HXP
          have m0 := (HP.out.m.keepsBut HKB.out (by omega)).cell 0 _ rfl
          have ml := (HP.out.m.keepsBut HKB.out (by omega)).lt
          go_wp2_with fail
          with_reducible refine (HT1.out _ (by exact HR.out) (by exact KeepsBut.keeps HP.out.keeps HKB.out (by omega))).mono ?_
          rintro e y1 ⟨g1, rfl, hg1, hb1, hr1, hk1⟩
          have HG1 := Lib.hid hb1
          have HR1 := Lib.hid hr1
          have HKB1 := Lib.hid (HKB.out.trans hk1)
          have HB1 := Lib.hid (HB.out.keepsBut hk1 (by omega))
          have HD1 := Lib.hid (HD.out.keepsBut hk1 (fun e => by have := (HD.out.lt _ e).1; omega))
          have hsz1 := hk1.size
          have hg1l := hb1.lt
          clear hb1 hr1 hk1 HT1 HKB HB HD HR m0 ml
          go_wp2_with fail
          with_reducible refine (HT2.out _ (by exact HR1.out) (by exact KeepsBut.keeps HP.out.keeps HKB1.out (by omega))).mono ?_
          rintro e y2 ⟨g2, rfl, hg2, hb2, hr2, hk2⟩
          have HG2 := Lib.hid hb2
          have HG12 := Lib.hid (HG1.out.keepsBut hk2 (by omega))
          have HR2 := Lib.hid hr2
          have HKB2 := Lib.hid (HKB1.out.trans hk2)
          have HB2 := Lib.hid (HB1.out.keepsBut hk2 (by omega))
          have HD2 := Lib.hid (HD1.out.keepsBut hk2 (fun e => by have := (HD1.out.lt _ e).1; omega))
          have hsz2 := hk2.size
          have hg2l := hb2.lt
          clear hb2 hr2 hk2 HT2 HKB1 HB1 HD1 HR1 HG1
          have x0 := HB2.out.cell 0 _ rfl
          have x1 := HB2.out.cell 1 _ rfl
          have x2 := HB2.out.cell 2 _ rfl
          have xl := HB2.out.lt
          have xf := HB2.out.frozen
          have hMX : ¬ Mb = wo.heap.size := by omega
          have m7 := (HP.out.m.keepsBut HKB2.out (by omega)).cell 7 _ rfl
          have ml := (HP.out.m.keepsBut HKB2.out (by omega)).lt
          have mf := (HP.out.m.keepsBut HKB2.out (by omega)).frozen
          have hX3 := HX.out.low (w' := (y2.setCell ⟨wo.heap.size, 1, none⟩ (.slice (some ⟨g1, 0, none⟩) t t)).setCell ⟨wo.heap.size, 2, none⟩ (.slice (some ⟨g2, 0, none⟩) k k)) (by have := HKB2.out.size; simpa using this) (fun b h1 h2 => (((KeepsBut.setCell _ wo.heap.size 2 _).block b (by have := HKB2.out.size; simp; omega) (by omega)).trans ((KeepsBut.setCell _ wo.heap.size 1 _).block b (by have := HKB2.out.size; omega) (by omega))).trans (HKB2.out.block b h2 (by omega)))
          have hkx : KeepsBut wo.heap.size y2 ((y2.setCell ⟨wo.heap.size, 1, none⟩ (.slice (some ⟨g1, 0, none⟩) t t)).setCell ⟨wo.heap.size, 2, none⟩ (.slice (some ⟨g2, 0, none⟩) k k)) := (KeepsBut.setCell y2 wo.heap.size 1 (.slice (some ⟨g1, 0, none⟩) t t)).trans (KeepsBut.setCell _ wo.heap.size 2 (.slice (some ⟨g2, 0, none⟩) k k))
          have hKB3 : KeepsBut (w.heap.size + 1) wo ((y2.setCell ⟨wo.heap.size, 1, none⟩ (.slice (some ⟨g1, 0, none⟩) t t)).setCell ⟨wo.heap.size, 2, none⟩ (.slice (some ⟨g2, 0, none⟩) k k)) := (HKB2.out.setNew (Nat.le_refl _) 1 (.slice (some ⟨g1, 0, none⟩) t t)).setNew (Nat.le_refl _) 2 (.slice (some ⟨g2, 0, none⟩) k k)
          have HP3 : Hid (PH w ((y2.setCell ⟨wo.heap.size, 1, none⟩ (.slice (some ⟨g1, 0, none⟩) t t)).setCell ⟨wo.heap.size, 2, none⟩ (.slice (some ⟨g2, 0, none⟩) k k)) Mb a cap l #[.int .i64 ((t : Nat) : Int), .int .i64 ((S : Nat) : Int), .int .i64 ((G : Nat) : Int), .int .i64 ((W : Nat) : Int), .int .i64 ((D : Nat) : Int), .int .i64 ((E : Nat) : Int), .slice (some ⟨gc, 0, none⟩) t t, .slice va xs.length vcap] (min (q + t + 2) l.length)) := Lib.hid (HP.out.take (Box.keepsBut HR2.out hkx (by omega)) hKB3)
          have hG13 := HG12.out.keepsBut hkx (by omega)
          have hG23 := HG2.out.keepsBut hkx (by omega)
          have hD3 := HD2.out.keepsBut hkx (fun e => by have := (HD2.out.lt _ e).1; omega)
          have hC3 := HC.out.keepsBut hKB3 (by omega)
          have hYI : RM.In ⟨.slice da t dcap, .slice (some ⟨g1, 0, none⟩) t t, .slice (some ⟨g2, 0, none⟩) k k, zd, e1, e2⟩ ((y2.setCell ⟨wo.heap.size, 1, none⟩ (.slice (some ⟨g1, 0, none⟩) t t)).setCell ⟨wo.heap.size, 2, none⟩ (.slice (some ⟨g2, 0, none⟩) k k)) := ⟨by
              have := hD3.ints
              exact this, by
              have := Box.bools hG13 (by rw [HE1.out]; omega)
              rw [HE1.out] at this
              exact this, by
              have := Box.bools hG23 (by rw [HE2.out]; omega)
              rw [HE2.out] at this
              exact this⟩
          have hYF : ∀ b, RM.at ⟨.slice da t dcap, .slice (some ⟨g1, 0, none⟩) t t, .slice (some ⟨g2, 0, none⟩) k k, zd, e1, e2⟩ b → wo.heap.size ≤ b ∧ b < ((y2.setCell ⟨wo.heap.size, 1, none⟩ (.slice (some ⟨g1, 0, none⟩) t t)).setCell ⟨wo.heap.size, 2, none⟩ (.slice (some ⟨g2, 0, none⟩) k k)).heap.size := fun b hb => by
            have hsu : ((y2.setCell ⟨wo.heap.size, 1, none⟩ (.slice (some ⟨g1, 0, none⟩) t t)).setCell ⟨wo.heap.size, 2, none⟩ (.slice (some ⟨g2, 0, none⟩) k k)).heap.size = y2.heap.size := by simp
            rw [hsu]
            rcases hb with e | e | e
            · have := HD2.out.lt b e; omega
            · simp only [Value.ownBlock, Option.some.injEq] at e; omega
            · simp only [Value.ownBlock, Option.some.injEq] at e; omega
          have hszu3 : bs ≤ ((y2.setCell ⟨wo.heap.size, 1, none⟩ (.slice (some ⟨g1, 0, none⟩) t t)).setCell ⟨wo.heap.size, 2, none⟩ (.slice (some ⟨g2, 0, none⟩) k k)).heap.size := by have := HKB2.out.size; simp; omega
          have hxl : xs.length = j := by
            have := congrArg List.length HXPM.out
            simp at this
            exact this
          have HXL := Lib.hid hxl
          clear hxl
          have hBN := Box.new ((y2.setCell ⟨wo.heap.size, 1, none⟩ (.slice (some ⟨g1, 0, none⟩) t t)).setCell ⟨wo.heap.size, 2, none⟩ (.slice (some ⟨g2, 0, none⟩) k k)) 71 #[.slice da t dcap, .slice (some ⟨g1, 0, none⟩) t t, .slice (some ⟨g2, 0, none⟩) k k]
          rw [World.size_setCell, World.size_setCell] at hBN
          have HBN := Lib.hid hBN
          clear hBN
          have HX3 := Lib.hid hX3
          have HYI := Lib.hid hYI
          have HYF := Lib.hid hYF
          have HC3 := Lib.hid hC3
          clear hX3 hkx hKB3 hG13 hG23 hD3 hC3 hYI hYF HX HP HC HG12 HG2 HD2 HR2
          go_wp2_with (refine wpList_pushX rfl (.tmp 85) (.tmp 87) rfl bs (.slice va xs.length vcap) xs ?a0 ?a1 y2.heap.size ⟨.slice da t dcap, .slice (some ⟨g1, 0, none⟩) t t, .slice (some ⟨g2, 0, none⟩) k k, zd, e1, e2⟩ ?a2 ?a3 ?a4 ?a5 ?a6 ?a7 ?a8 ?hmain)
          case a0 => rfl
          case a1 => exact HX3.out.low (by simp) (fun b _ h2 => ((Keeps.refl _).alloc _).block b h2)
          case a2 => rfl
          case a3 => exact HBN.out
          case a4 => intro u hu; simp only [RM.cells, List.mem_cons, List.not_mem_nil, or_false] at hu; rcases hu with rfl | rfl | rfl <;> rfl
          case a5 => exact HYI.out.keeps ((Keeps.refl _).alloc _)
          case a6 =>
            intro b hb
            obtain ⟨h1, h2⟩ := HYF.out b hb
            refine ⟨by omega, by rw [World.size_alloc]; omega, fun e => ?_⟩
            have := HV.out b e
            omega
          case a7 => rw [HXL.out]; omega
          case a8 => rw [World.size_alloc]; omega
          case hmain =>
            intro v' w4 hown hg
            obtain ⟨va', vcap', hv', -⟩ := hown.rms
            have hlen' : (xs ++ [(⟨.slice da t dcap, .slice (some ⟨g1, 0, none⟩) t t, .slice (some ⟨g2, 0, none⟩) k k, zd, e1, e2⟩ : RM)]).length = j + 1 := by simp [HXL.out]
            rw [hlen'] at hv'
            subst hv'
            have hvM : ∀ b, Value.ownBlock (.slice va xs.length vcap) = some b → bs ≤ b := fun b e => (HX3.out.lt b e).1
            have hP4 := (HP3.out.keep ((Keeps.refl _).alloc (.cells #[.slice da t dcap, .slice (some ⟨g1, 0, none⟩) t t, .slice (some ⟨g2, 0, none⟩) k k] 71))).grown hg (fun b e => by have := hvM b e; omega)
            have hC4 : Box w4 gc 4 ((truthsOf (c : Int) t).map Value.bool).toArray := (hg.block _ (HC3.out.next _).lt (fun e => by have := hvM gc e.symm; omega)).trans (HC3.out.next _)
            have HP5 : Hid (PH w (w4.setCell ⟨Mb, 7, none⟩ (.slice va' (j + 1) vcap')) Mb a cap l #[.int .i64 ((t : Nat) : Int), .int .i64 ((S : Nat) : Int), .int .i64 ((G : Nat) : Int), .int .i64 ((W : Nat) : Int), .int .i64 ((D : Nat) : Int), .int .i64 ((E : Nat) : Int), .slice (some ⟨gc, 0, none⟩) t t, .slice va' (j + 1) vcap'] (min (q + t + 2) l.length)) := Lib.hid (hP4.put 7 (.slice va' (j + 1) vcap') rfl)
            have HC5 : Hid (Box (w4.setCell ⟨Mb, 7, none⟩ (.slice va' (j + 1) vcap')) gc 4 ((truthsOf (c : Int) t).map Value.bool).toArray) := Lib.hid (hC4.keepsBut (KeepsBut.setCell _ _ _ _) (by omega))
            have HX5 : Hid (OwnX (w4.setCell ⟨Mb, 7, none⟩ (.slice va' (j + 1) vcap')) bs (.slice va' (j + 1) vcap') (xs ++ [⟨.slice da t dcap, .slice (some ⟨g1, 0, none⟩) t t, .slice (some ⟨g2, 0, none⟩) k k, zd, e1, e2⟩])) := Lib.hid (hown.but (KeepsBut.setCell _ _ _ _) ma)
            have hsz5 : bs ≤ (w4.setCell ⟨Mb, 7, none⟩ (.slice va' (j + 1) vcap')).heap.size := by have := hg.size; simp at this ⊢; omega
            have m7' := hP4.m.cell 7 _ rfl
            have ml' := hP4.m.lt
            have mf' := hP4.m.frozen
            clear hP4 hC4 hown hg HP3 HC3 HX3 HYI HYF HBN HB2 HKB2 x0 x1 x2 xl xf m7 ml mf
            go_wp2_with fail
            go_roundw
            case rel => exact ⟨j + 1, .slice va' (j + 1) vcap', xs ++ [⟨.slice da t dcap, .slice (some ⟨g1, 0, none⟩) t t, .slice (some ⟨g2, 0, none⟩) k k, zd, e1, e2⟩], by omega, by go_num, by rw [HQ2.out]; exact HP5, HC5, HX5, Lib.hid (by rw [List.map_append]; exact HXPM.out), hsz5⟩
            case measure => simp [intOf]; omega
    · obtain rfl : j = k := by omega
      obtain ⟨va, vcap, hvv, hrms⟩ := HX.out.rms
      subst hvv
      have hxl : xs.length = j := by
        have := congrArg List.length HXP.out
        simpa using this
      rw [hxl] at hrms HP HX
      have hcb := Box.bools HC.out (by rw [truthsOf_len]; omega)
      rw [truthsOf_len] at hcb
      have hIN : RMedl.In ⟨n, S, G, W, D, E, .slice (some ⟨gc, 0, none⟩) n n, truthsOf (c : Int) n, va, j, vcap, xs⟩ wr := ⟨hcb, hrms⟩
      have hsame : sameL ⟨n, S, G, W, D, E, .slice (some ⟨gc, 0, none⟩) n n, truthsOf (c : Int) n, va, j, vcap, xs⟩ (pMedl l) = true := by
        rw [sameL_iff, HPM.out]
        refine ⟨rfl, rfl, rfl, rfl, rfl, rfl, rfl, ?_⟩
        simp only [List.map_map]
        exact HXP.out
      obtain ⟨m, hm⟩ : ∃ m : RMedl, m = ⟨n, S, G, W, D, E, .slice (some ⟨gc, 0, none⟩) n n, truthsOf (c : Int) n, va, j, vcap, xs⟩ := ⟨_, rfl⟩
      rw [← hm] at hIN hsame
      have hmv : m.val = .agg #[.int .i64 ((n : Nat) : Int), .int .i64 ((S : Nat) : Int), .int .i64 ((G : Nat) : Int), .int .i64 ((W : Nat) : Int), .int .i64 ((D : Nat) : Int), .int .i64 ((E : Nat) : Int), .slice (some ⟨gc, 0, none⟩) n n, .slice va j vcap] := by rw [hm]
      have HIN := Lib.hid hIN
      have HINF : Hid (∀ cur, Box cur gc 4 ((truthsOf (c : Int) n).map Value.bool).toArray → OwnX cur bs (.slice va j vcap) xs → m.In cur) := Lib.hid (fun cur h1 h2 => by
        rw [hm]
        have hcb := Box.bools h1 (by rw [truthsOf_len]; omega)
        rw [truthsOf_len] at hcb
        obtain ⟨va2, vcap2, hv2, hr2⟩ := h2.rms
        simp only [Value.slice.injEq] at hv2
        obtain ⟨rfl, hl2, rfl⟩ := hv2
        rw [← hl2] at hr2
        exact ⟨hcb, hr2⟩)
      have HSA := Lib.hid hsame
      have HBC : Hid (∀ cur, m.In cur → Calls Try.prog 49 #[.agg #[.int .i64 ((n : Nat) : Int), .int .i64 ((S : Nat) : Int), .int .i64 ((G : Nat) : Int), .int .i64 ((W : Nat) : Int), .int .i64 ((D : Nat) : Int), .int .i64 ((E : Nat) : Int), .slice (some ⟨gc, 0, none⟩) n n, .slice va j vcap]] cur fun e w' => ∃ v, e = .returned (.tuple #[v, .int .i64 (medlErr m)]) ∧ Own w' cur.heap.size 5 v (u8s (bytesRes m)) ∧ Keeps cur w') := Lib.hid (fun cur h => by have := mbytes_any m cur h; rw [hmv] at this; exact this)
      have HMV := Lib.hid hmv
      have HYES2 : Hid (goodP l = true ↔ medlOk m = true ∧ medlBytes m = l) := Lib.hid (by rw [HYES.out hn8 hk4, same_ok hsame, same_bytes hsame])
      clear hxl hrms hcb hIN hsame hm hmv HXP HPM HYES
      have m0 := HP.out.m.cell 0 _ rfl
      have m1 := HP.out.m.cell 1 _ rfl
      have m2 := HP.out.m.cell 2 _ rfl
      have m3 := HP.out.m.cell 3 _ rfl
      have m4 := HP.out.m.cell 4 _ rfl
      have m5 := HP.out.m.cell 5 _ rfl
      have m6 := HP.out.m.cell 6 _ rfl
      have m7 := HP.out.m.cell 7 _ rfl
      have ml := HP.out.m.lt
      go_wp2_with fail
      with_reducible refine (HBC.out _ (by exact HIN.out)).mono ?_
      rintro e w2 ⟨vb, rfl, hob, hkb⟩
      have HP2 := Lib.hid (HP.out.keep hkb)
      have HC2 := Lib.hid (HC.out.keeps hkb)
      have HX2 := Lib.hid (HX.out.low hkb.size (fun b _ h2 => hkb.block b h2))
      have HOB := Lib.hid hob
      have hRl : w.heap.size < bs := by omega
      clear hkb hob HP HC HX HIN HBC m0 m1 m2 m3 m4 m5 m6 m7 ml
      cases hok : medlOk m
      · have HGO : Hid (goodP l = false) := Lib.hid (by rw [Bool.eq_false_iff, ne_eq, HYES2.out]; rw [hok]; rintro ⟨h, -⟩; cases h)
        rw [medlErr_70 hok]
        have z0 := HP2.out.z.cell 0 _ rfl
        have z1 := HP2.out.z.cell 1 _ rfl
        have z2 := HP2.out.z.cell 2 _ rfl
        have z3 := HP2.out.z.cell 3 _ rfl
        have z4 := HP2.out.z.cell 4 _ rfl
        have z5 := HP2.out.z.cell 5 _ rfl
        have z6 := HP2.out.z.cell 6 _ rfl
        have z7 := HP2.out.z.cell 7 _ rfl
        have zl := HP2.out.z.lt
        have zf := HP2.out.z.frozen
        go_wp2_with fail
        refine bodyPost_ret (v := .tuple #[zeroM.val, .int .i64 71]) (by simp [results, Try.results51, go_sem, zeroM, *]) rfl (parse_no HGO.out rfl ?_)
        iterate 8 with_reducible refine Keeps.setCell ?_ (by simp) _
        exact HP2.out.keeps
      · have hres : bytesRes m = medlBytes m := by unfold bytesRes; rw [hok]; rfl
        rw [hres] at HOB
        obtain ⟨ab, cb, hvb, -, -, hrow⟩ := HOB.out.shape
        rw [u8s_len] at hvb hrow
        subst hvb
        have HBE := Lib.hid (beq_any ab a cb cap (medlBytes m) l w2 hrow (HBy.out.keeps HP2.out.keeps).row (medlBytes_lt (medlOk_fit hok)) HBy.out.byte)
        rw [medlErr_yes hok]
        have HOK := Lib.hid hok
        clear hres hrow HOB hok
        go_wp2_with fail
        with_reducible refine HBE.out.mono ?_
        by_cases heq : medlBytes m = l
        · rw [decide_eq_true heq]
          rintro e w3 ⟨rfl, rfl⟩
          have HGO : Hid (goodP l = true) := Lib.hid (HYES2.out.2 ⟨HOK.out, heq⟩)
          clear heq HBE HYES2
          have z0 := HP2.out.z.cell 0 _ rfl
          have z1 := HP2.out.z.cell 1 _ rfl
          have z2 := HP2.out.z.cell 2 _ rfl
          have z3 := HP2.out.z.cell 3 _ rfl
          have z4 := HP2.out.z.cell 4 _ rfl
          have z5 := HP2.out.z.cell 5 _ rfl
          have z6 := HP2.out.z.cell 6 _ rfl
          have z7 := HP2.out.z.cell 7 _ rfl
          have zl := HP2.out.z.lt
          have zf := HP2.out.z.frozen
          have m0 := HP2.out.m.cell 0 _ rfl
          have m1 := HP2.out.m.cell 1 _ rfl
          have m2 := HP2.out.m.cell 2 _ rfl
          have m3 := HP2.out.m.cell 3 _ rfl
          have m4 := HP2.out.m.cell 4 _ rfl
          have m5 := HP2.out.m.cell 5 _ rfl
          have m6 := HP2.out.m.cell 6 _ rfl
          have m7 := HP2.out.m.cell 7 _ rfl
          have ml := HP2.out.m.lt
          have hRM : ¬ w.heap.size = Mb := by have := HP2.out.hM; omega
          go_wp2_with fail
          refine bodyPost_ret (v := .tuple #[.agg #[.int .i64 ((n : Nat) : Int), .int .i64 ((S : Nat) : Int), .int .i64 ((G : Nat) : Int), .int .i64 ((W : Nat) : Int), .int .i64 ((D : Nat) : Int), .int .i64 ((E : Nat) : Int), .slice (some ⟨gc, 0, none⟩) n n, .slice va j vcap], .int .i64 0]) (by simp [results, Try.results51, go_sem, *]) rfl (parse_yes HGO.out (by rw [HMV.out]) (HINF.out _ ?_ ?_) HSA.out ?_)
          · iterate 8 refine Box.keepsBut ?_ (KeepsBut.setCell _ _ _ _) (show gc ≠ w.heap.size by omega)
            exact HC2.out
          · iterate 8 refine OwnX.but ?_ (KeepsBut.setCell _ _ _ _) hRl
            exact HX2.out
          · iterate 8 with_reducible refine Keeps.setCell ?_ (by simp) _
            exact HP2.out.keeps
        · rw [decide_eq_false heq]
          rintro e w3 ⟨rfl, rfl⟩
          have HGO : Hid (goodP l = false) := Lib.hid (by rw [Bool.eq_false_iff, ne_eq, HYES2.out]; exact fun h => heq h.2)
          clear heq HBE HYES2
          have z0 := HP2.out.z.cell 0 _ rfl
          have z1 := HP2.out.z.cell 1 _ rfl
          have z2 := HP2.out.z.cell 2 _ rfl
          have z3 := HP2.out.z.cell 3 _ rfl
          have z4 := HP2.out.z.cell 4 _ rfl
          have z5 := HP2.out.z.cell 5 _ rfl
          have z6 := HP2.out.z.cell 6 _ rfl
          have z7 := HP2.out.z.cell 7 _ rfl
          have zl := HP2.out.z.lt
          have zf := HP2.out.z.frozen
          go_wp2_with fail
          refine bodyPost_ret (v := .tuple #[zeroM.val, .int .i64 71]) (by simp [results, Try.results51, go_sem, zeroM, *]) rfl (parse_no HGO.out rfl ?_)
          iterate 8 with_reducible refine Keeps.setCell ?_ (by simp) _
          exact HP2.out.keeps
theorem sameL_both {a b c : RMedl} (h1 : sameL a c = true) (h2 : sameL b c = true) : sameL a b = true := by
  obtain ⟨a1, a2, a3, a4, a5, a6, a7, a8⟩ := (sameL_iff a c).1 h1
  obtain ⟨b1, b2, b3, b4, b5, b6, b7, b8⟩ := (sameL_iff b c).1 h2
  exact (sameL_iff a b).2 ⟨a1.trans b1.symm, a2.trans b2.symm, a3.trans b3.symm, a4.trans b4.symm, a5.trans b5.symm, a6.trans b6.symm, a7.trans b7.symm, a8.trans b8.symm⟩
theorem sameL_trans {a b c : RMedl} (h1 : sameL a b = true) (h2 : sameL b c = true) : sameL a c = true := by
  obtain ⟨a1, a2, a3, a4, a5, a6, a7, a8⟩ := (sameL_iff a b).1 h1
  obtain ⟨b1, b2, b3, b4, b5, b6, b7, b8⟩ := (sameL_iff b c).1 h2
  exact (sameL_iff a c).2 ⟨a1.trans b1, a2.trans b2, a3.trans b3, a4.trans b4, a5.trans b5, a6.trans b6, a7.trans b7, a8.trans b8⟩
/-- bytes of any length -/
structure YB (w : World) (a : Option Addr) (cap : Nat) (l : List Nat) : Prop where
  row : RowV w a l.length (u8s l)
  hcap : l.length ≤ cap
  hmax : cap ≤ 9223372036854775807
  len : l.length ≤ 140737488355328
  byte : ∀ x ∈ l, x < 256
theorem YB.keeps {w w' : World} {a : Option Addr} {cap : Nat} {l : List Nat} (h : YB w a cap l) (hk : Keeps w w') : YB w' a cap l := ⟨h.row.keeps hk, h.hcap, h.hmax, h.len, h.byte⟩
theorem parse_all (a : Option Addr) (cap : Nat) (l : List Nat) (w : World) (h : YB w a cap l) : Calls Try.prog 51 #[.slice a l.length cap] w (ParsePost l w) := by
  by_cases h1 : 21 ≤ l.length ∧ l.length ≤ 512
  · exact parse_any a cap l w ⟨h.row, h.hcap, h.hmax, h1.2, h.byte⟩ h1.1
  · exact parse_short a cap l w h.len h1
end Go.Proofs.Ytmjodcackmjllaa
