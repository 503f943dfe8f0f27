/- The reference's Parse. -/
import Derived.Test.YtmjodcackmjllaaQ13
import Derived.Test.YtmjodcackmjllaaQ8
import Derived.Deep.QuietTactic
import Derived.BigQuiet
import Derived.Deep.RegionHeld3
import Derived.Deep.DeepCutAuto
namespace Go.Proofs.Ytmjodcackmjllaa
open Go.RowKit
set_option linter.unusedVariables false
set_option linter.unusedSimpArgs false
/-- how far the reference's Parse has come -/
structure PZ (w cur : World) (Mb : Nat) (mc : Array Value) : Prop where
  keeps : Keeps w cur
  z : Box cur w.heap.size 25 #[.int .i64 0, .int .i64 0, .int .i64 0, .int .i64 0, .int .i64 0, .int .i64 0, .slice none 0 0, .slice none 0 0]
  m : Box cur Mb 25 mc
  hM : w.heap.size < Mb
theorem PZ.keep {w cur u : World} {Mb : Nat} {mc : Array Value} (h : PZ w cur Mb mc) (hk : Keeps cur u) : PZ w u Mb mc :=
  ⟨h.keeps.trans hk, h.z.keeps hk, h.m.keeps hk, h.hM⟩
theorem PZ.put {w cur : World} {Mb : Nat} {mc mc' : Array Value} (h : PZ w cur Mb mc) (i : Nat) (v : Value) (hm : mc' = mc.setIfInBounds i v) : PZ w (cur.setCell ⟨Mb, i, none⟩ v) Mb mc' := by
  subst hm
  have hM := h.hM
  exact ⟨h.keeps.setCell (p := ⟨Mb, i, none⟩) (by show w.heap.size ≤ Mb; omega) v, h.z.keepsBut (KeepsBut.setCell _ _ _ _) (by omega), h.m.put i v, hM⟩
theorem PZ.grown {w cur u : World} {Mb : Nat} {mc : Array Value} {o : Option Nat} (h : PZ w cur Mb mc) (hg : cur.grownBy u o) (ho : ∀ b, o = some b → Mb < b) : PZ w u Mb mc := by
  have hM := h.hM
  have hne : ∀ b, b ≤ Mb → some b ≠ o := fun b hb e => by have := ho b e.symm; omega
  exact ⟨Below.grown h.keeps hg h.keeps.size (fun b hb => by have := ho b hb; omega), (hg.block _ h.z.lt (hne _ (by omega))).trans h.z, (hg.block _ h.m.lt (hne _ (Nat.le_refl _))).trans h.m, hM⟩
theorem PZ.setNew {w cur : World} {Mb X : Nat} {mc : Array Value} (h : PZ w cur Mb mc) (hX : Mb < X) (i : Nat) (v : Value) : PZ w (cur.setCell ⟨X, i, none⟩ v) Mb mc := by
  have hM := h.hM
  exact ⟨h.keeps.setCell (p := ⟨X, i, none⟩) (by show w.heap.size ≤ X; omega) v, h.z.keepsBut (KeepsBut.setCell _ _ _ _) (by omega), h.m.keepsBut (KeepsBut.setCell _ _ _ _) (by omega), hM⟩
theorem goodP_len {l : List Nat} (h : goodP l = true) : l.length = 18 + pModes l * (pNodes l + 2) + 3 := by
  obtain ⟨-, h2, h3⟩ := (goodP_iff l).1 h
  have hf := medlOk_fit h2
  have := medlBytes_len hf
  rw [h3] at this
  rw [this]
  simp [pMedl]
theorem RowV.sub {w : World} {b off : Nat} {l : List Nat} (h : RowV w (some ⟨b, off, none⟩) l.length (u8s l)) (p s : Nat) (hp : p + s ≤ l.length) : RowV w (some ⟨b, off + p, none⟩) ((l.drop p).take s).length (u8s ((l.drop p).take s)) := by
  have hl : ((l.drop p).take s).length = s := by simp; omega
  refine ⟨u8s_len _, fun i hi => ⟨b, off + p, rfl, ?_⟩⟩
  rw [hl] at hi
  obtain ⟨b', off', hab, hc⟩ := h.2 (p + i) (by omega)
  simp only [Option.some.injEq, Addr.mk.injEq, and_true] at hab
  obtain ⟨rfl, rfl⟩ := hab
  rw [show off + p + i = off + (p + i) by omega, hc]
  simp only [u8s, List.getElem?_map, List.getElem?_take, List.getElem?_drop, hi, if_true]
theorem numB_sub (l : List Nat) (p s : Nat) (hp : p + s ≤ l.length) : ∀ j, j ≤ s → numB ((l.drop p).take s) 0 j = numB l p j
  | 0, _ => rfl
  | j + 1, h => by
    have := numB_sub l p s hp j (by omega)
    simp only [numB, this]
    congr 1
    simp only [List.getD_eq_getElem?_getD, List.getElem?_take, List.getElem?_drop, Nat.zero_add, show j < s by omega, if_true]
theorem number_at {w : World} {b off cap : Nat} {l : List Nat} (h : RowV w (some ⟨b, off, none⟩) l.length (u8s l)) (hb : ∀ x ∈ l, x < 256) (hc1 : l.length ≤ cap) (hc2 : cap ≤ 9223372036854775807) (p s : Nat) (h7 : s ≤ 7) (hp : p + s ≤ l.length) :
    Calls Try.prog 96 #[.slice (some ⟨b, off + p, none⟩) s (cap - p)] w fun e w' => e = .returned (.int .i64 (numB l p s : Nat)) ∧ w' = w := by
  have hl : ((l.drop p).take s).length = s := by simp; omega
  have := rnumber_any (some ⟨b, off + p, none⟩) (cap - p) ((l.drop p).take s) w (h.sub p s hp) (by omega) (by omega) (by omega) (fun x hx => hb x (List.mem_of_mem_drop (List.mem_of_mem_take hx)))
  rw [hl, numB_sub l p s hp s (Nat.le_refl _)] at this
  exact this
set_option maxRecDepth 100000 in
set_option maxHeartbeats 2000000 in
theorem rparse_short (a : Option Addr) (cap : Nat) (l : List Nat) (w : World) (h18 : l.length < 18) :
    Calls Try.prog 52 #[.slice a l.length cap] w (ParsePost l w) := by
  have HGO := Lib.hid (goodP_no1 (l := l) (fun hh => by omega))
  have HK := Lib.hid ((Keeps.refl w).alloc (.cells #[.int .i64 0, .int .i64 0, .int .i64 0, .int .i64 0, .int .i64 0, .int .i64 0, .slice none 0 0, .slice none 0 0] 25))
  have HZ := Lib.hid ((Box.new w 25 #[.int .i64 0, .int .i64 0, .int .i64 0, .int .i64 0, .int .i64 0, .int .i64 0, .slice none 0 0, .slice none 0 0]).keeps (Keeps.refl _).drew)
  have hd1 : decide ((l.length : Int) < 18) = true := by simp; omega
  have hd1' : decide (l.length < 18) = true := by simpa using h18
  go_enter Try.func52, Try.ntmps52
  go_upto_region 1 with fail
  go_quiet (fail)
  obtain ⟨X, hX⟩ : ∃ X, X = (w.alloc (.cells #[.int .i64 0, .int .i64 0, .int .i64 0, .int .i64 0, .int .i64 0, .int .i64 0, .slice none 0 0, .slice none 0 0] 25)).drewN nq := ⟨_, rfl⟩
  have HZ : Hid (Box X w.heap.size 25 #[.int .i64 0, .int .i64 0, .int .i64 0, .int .i64 0, .int .i64 0, .int .i64 0, .slice none 0 0, .slice none 0 0]) := Lib.hid (by rw [hX]; exact (Box.new w 25 #[.int .i64 0, .int .i64 0, .int .i64 0, .int .i64 0, .int .i64 0, .int .i64 0, .slice none 0 0, .slice none 0 0]).keeps ((Keeps.refl _).drewN nq))
  have HK : Hid (Keeps w X) := Lib.hid (by rw [hX]; exact ((Keeps.refl w).alloc _).drewN nq)
  rw [← hX]
  clear hX
  have z0 := HZ.out.cell 0 _ rfl
  have z1 := HZ.out.cell 1 _ rfl
  have z2 := HZ.out.cell 2 _ rfl
  have z3 := HZ.out.cell 3 _ rfl
  have z4 := HZ.out.cell 4 _ rfl
  have z5 := HZ.out.cell 5 _ rfl
  have z6 := HZ.out.cell 6 _ rfl
  have z7 := HZ.out.cell 7 _ rfl
  have zl := HZ.out.lt
  have zf := HZ.out.frozen
  go_wp2_with fail
  refine bodyPost_ret (v := .tuple #[zeroM.val, .int .i64 71]) (by simp [results, Try.results52, go_sem, zeroM, *]) rfl (parse_no HGO.out rfl ?_)
  iterate 8 with_reducible refine Keeps.setCell ?_ (by simp) _
  exact HK.out

set_option maxRecDepth 100000 in
set_option maxHeartbeats 4000000 in
theorem rparse_any (a : Option Addr) (cap : Nat) (l : List Nat) (w : World) (hr : RowV w a l.length (u8s l)) (hc1 : l.length ≤ cap) (hc2 : cap ≤ 9223372036854775807) (hb : ∀ x ∈ l, x < 256) :
    Calls Try.prog 52 #[.slice a l.length cap] w (ParsePost l w) := by
  by_cases h18 : l.length < 18
  · exact rparse_short a cap l w h18
  have hd1 : decide ((l.length : Int) < 18) = false := by simp; omega
  have hd1' : decide (l.length < 18) = false := by simp; omega
  obtain ⟨b, off, rfl, hcell, hbl⟩ := hr.addr (by omega)
  have HCE : Hid (∀ i, i < l.length → w.cell? ⟨b, off + i, none⟩ = some (.int .u8 ((l.getD i 0 : Nat) : Int))) := Lib.hid (fun i hi => (hcell i hi).trans (by simp [u8s, hi]))
  have hn : pNodes l = l.getD 1 0 := by simp [pNodes, numB]
  have hk : pModes l = l.getD 2 0 := by simp [pModes, numB]
  have hn256 := getD_lt hb 1
  have hk256 := getD_lt hb 2
  have c1 := HCE.out 1 (by omega)
  have c2 := HCE.out 2 (by omega)
  have HN1 : Hid (8 < l.getD 1 0 → goodP l = false) := Lib.hid (fun h => goodP_no1 (fun hh => by rw [hn] at hh; omega))
  have HN2 : Hid (4 < l.getD 2 0 → goodP l = false) := Lib.hid (fun h => goodP_no1 (fun hh => by rw [hk] at hh; omega))
  have HN3 : Hid (l.length ≠ 18 + l.getD 2 0 * (l.getD 1 0 + 2) + 3 → goodP l = false) := Lib.hid (fun h => by
    cases hg : goodP l
    · rfl
    · have := goodP_len hg
      rw [hn, hk] at this
      exact absurd this h)
  have HPM : Hid (l.length = 18 + l.getD 2 0 * (l.getD 1 0 + 2) + 3 → l.getD 1 0 ≤ 8 → l.getD 2 0 ≤ 4 → (goodP l = true ↔ medlOk (pMedl l) = true ∧ medlBytes (pMedl l) = l)) := Lib.hid (fun h h1 h2 => by
    have hp : l.getD 2 0 * (l.getD 1 0 + 2) ≤ 4 * 10 := Nat.mul_le_mul h2 (by omega)
    rw [goodP_iff, hn, hk]
    exact ⟨fun h => h.2, fun hh => ⟨⟨by omega, by omega, h1, h2⟩, hh⟩⟩)
  have HPV : Hid (18 ≤ l.length → pMedl l = ⟨l.getD 1 0, numB l 3 4, numB l 7 4, numB l 11 4, l.getD 15 0, l.getD 16 0, .slice none 0 0, truthsOf (l.getD 17 0 : Nat) (l.getD 1 0), none, 0, 0, (List.range (l.getD 2 0)).map fun j => pMode l (l.getD 1 0) (l.getD 2 0) (18 + j * (l.getD 1 0 + 2))⟩) := Lib.hid (fun _ => by
    unfold pMedl
    rw [hn, hk]
    simp [numB])
  clear hn hk hcell
  obtain ⟨n, hn⟩ : ∃ n, n = l.getD 1 0 := ⟨_, rfl⟩
  obtain ⟨k, hk⟩ : ∃ k, k = l.getD 2 0 := ⟨_, rfl⟩
  rw [← hn] at c1 hn256 HN1 HN3 HPM HPV
  rw [← hk] at c2 hk256 HN2 HN3 HPM HPV
  clear hn hk
  by_cases hn8 : 8 < n
  · have hdn : decide ((8 : Int) < (n : Int)) = true := by simp; omega
    have hdn' : decide (8 < n) = true := by simp; omega
    have HGO := Lib.hid (HN1.out hn8)
    clear HN1 HN2 HN3 HPM HPV HCE
    go_enter Try.func52, Try.ntmps52
    go_upto_region 1 with fail
    go_quiet (fail)
    obtain ⟨X, hX⟩ : ∃ X, X = (w.alloc (.cells #[.int .i64 0, .int .i64 0, .int .i64 0, .int .i64 0, .int .i64 0, .int .i64 0, .slice none 0 0, .slice none 0 0] 25)).drewN nq := ⟨_, rfl⟩
    have HZ : Hid (Box X w.heap.size 25 #[.int .i64 0, .int .i64 0, .int .i64 0, .int .i64 0, .int .i64 0, .int .i64 0, .slice none 0 0, .slice none 0 0]) := Lib.hid (by rw [hX]; exact (Box.new w 25 #[.int .i64 0, .int .i64 0, .int .i64 0, .int .i64 0, .int .i64 0, .int .i64 0, .slice none 0 0, .slice none 0 0]).keeps ((Keeps.refl _).drewN nq))
    have HK : Hid (Keeps w X) := Lib.hid (by rw [hX]; exact ((Keeps.refl w).alloc _).drewN nq)
    rw [← hX]
    clear hX
    have z0 := HZ.out.cell 0 _ rfl
    have z1 := HZ.out.cell 1 _ rfl
    have z2 := HZ.out.cell 2 _ rfl
    have z3 := HZ.out.cell 3 _ rfl
    have z4 := HZ.out.cell 4 _ rfl
    have z5 := HZ.out.cell 5 _ rfl
    have z6 := HZ.out.cell 6 _ rfl
    have z7 := HZ.out.cell 7 _ rfl
    have zl := HZ.out.lt
    have zf := HZ.out.frozen
    go_wp2_with fail
    refine bodyPost_ret (v := .tuple #[zeroM.val, .int .i64 71]) (by simp [results, Try.results52, go_sem, zeroM, *]) rfl (parse_no HGO.out rfl ?_)
    iterate 8 with_reducible refine Keeps.setCell ?_ (by simp) _
    exact HK.out
  have hdn : decide ((8 : Int) < (n : Int)) = false := by simp; omega
  have hdn' : decide (8 < n) = false := by simp; omega
  by_cases hk4 : 4 < k
  · have hdk : decide ((4 : Int) < (k : Int)) = true := by simp; omega
    have hdk' : decide (4 < k) = true := by simp; omega
    have HGO := Lib.hid (HN2.out hk4)
    clear HN1 HN2 HN3 HPM HPV HCE
    go_enter Try.func52, Try.ntmps52
    go_upto_region 1 with fail
    go_quiet (fail)
    obtain ⟨X, hX⟩ : ∃ X, X = (w.alloc (.cells #[.int .i64 0, .int .i64 0, .int .i64 0, .int .i64 0, .int .i64 0, .int .i64 0, .slice none 0 0, .slice none 0 0] 25)).drewN nq := ⟨_, rfl⟩
    have HZ : Hid (Box X w.heap.size 25 #[.int .i64 0, .int .i64 0, .int .i64 0, .int .i64 0, .int .i64 0, .int .i64 0, .slice none 0 0, .slice none 0 0]) := Lib.hid (by rw [hX]; exact (Box.new w 25 #[.int .i64 0, .int .i64 0, .int .i64 0, .int .i64 0, .int .i64 0, .int .i64 0, .slice none 0 0, .slice none 0 0]).keeps ((Keeps.refl _).drewN nq))
    have HK : Hid (Keeps w X) := Lib.hid (by rw [hX]; exact ((Keeps.refl w).alloc _).drewN nq)
    rw [← hX]
    clear hX
    have z0 := HZ.out.cell 0 _ rfl
    have z1 := HZ.out.cell 1 _ rfl
    have z2 := HZ.out.cell 2 _ rfl
    have z3 := HZ.out.cell 3 _ rfl
    have z4 := HZ.out.cell 4 _ rfl
    have z5 := HZ.out.cell 5 _ rfl
    have z6 := HZ.out.cell 6 _ rfl
    have z7 := HZ.out.cell 7 _ rfl
    have zl := HZ.out.lt
    have zf := HZ.out.frozen
    go_wp2_with fail
    refine bodyPost_ret (v := .tuple #[zeroM.val, .int .i64 71]) (by simp [results, Try.results52, go_sem, zeroM, *]) rfl (parse_no HGO.out rfl ?_)
    iterate 8 with_reducible refine Keeps.setCell ?_ (by simp) _
    exact HK.out
  have hdk : decide ((4 : Int) < (k : Int)) = false := by simp; omega
  have hdk' : decide (4 < k) = false := by simp; omega
  obtain ⟨P, hP⟩ : ∃ P, k * (n + 2) = P := ⟨_, rfl⟩
  have hPle : P ≤ 40 := by rw [← hP]; exact Nat.mul_le_mul (show k ≤ 4 by omega) (show n + 2 ≤ 10 by omega)
  have hPI : (k : Int) * ((n : Int) + 2) = (P : Int) := by rw [← hP]; simp
  rw [hP] at HN3 HPM
  have hwn : IntKind.i64.wrap ((n : Int) + 2) = (n : Int) + 2 := by simp [IntKind.wrap, IntKind.bits, IntKind.signed]; omega
  have hwp : IntKind.i64.wrap (P : Int) = (P : Int) := by simp [IntKind.wrap, IntKind.bits, IntKind.signed]; omega
  have hw1 : IntKind.i64.wrap (18 + (P : Int)) = 18 + (P : Int) := by simp [IntKind.wrap, IntKind.bits, IntKind.signed]; omega
  have hw2 : IntKind.i64.wrap (18 + (P : Int) + 3) = 18 + (P : Int) + 3 := by simp [IntKind.wrap, IntKind.bits, IntKind.signed]; omega
  have HPP := Lib.hid hP
  clear hP
  by_cases hlen : l.length = 18 + P + 3
  case neg =>
    have hdl : ((l.length : Int) != 18 + (P : Int) + 3) = true := by simp; omega
    have HGO := Lib.hid (HN3.out hlen)
    clear HN1 HN2 HN3 HPM HPV HCE
    go_enter Try.func52, Try.ntmps52
    go_upto_region 1 with fail
    go_quiet (fail)
    obtain ⟨X, hX⟩ : ∃ X, X = (w.alloc (.cells #[.int .i64 0, .int .i64 0, .int .i64 0, .int .i64 0, .int .i64 0, .int .i64 0, .slice none 0 0, .slice none 0 0] 25)).drewN nq := ⟨_, rfl⟩
    have HZ : Hid (Box X w.heap.size 25 #[.int .i64 0, .int .i64 0, .int .i64 0, .int .i64 0, .int .i64 0, .int .i64 0, .slice none 0 0, .slice none 0 0]) := Lib.hid (by rw [hX]; exact (Box.new w 25 #[.int .i64 0, .int .i64 0, .int .i64 0, .int .i64 0, .int .i64 0, .int .i64 0, .slice none 0 0, .slice none 0 0]).keeps ((Keeps.refl _).drewN nq))
    have HK : Hid (Keeps w X) := Lib.hid (by rw [hX]; exact ((Keeps.refl w).alloc _).drewN nq)
    rw [← hX]
    clear hX
    have z0 := HZ.out.cell 0 _ rfl
    have z1 := HZ.out.cell 1 _ rfl
    have z2 := HZ.out.cell 2 _ rfl
    have z3 := HZ.out.cell 3 _ rfl
    have z4 := HZ.out.cell 4 _ rfl
    have z5 := HZ.out.cell 5 _ rfl
    have z6 := HZ.out.cell 6 _ rfl
    have z7 := HZ.out.cell 7 _ rfl
    have zl := HZ.out.lt
    have zf := HZ.out.frozen
    go_wp2_with fail
    refine bodyPost_ret (v := .tuple #[zeroM.val, .int .i64 71]) (by simp [results, Try.results52, go_sem, zeroM, *]) rfl (parse_no HGO.out rfl ?_)
    iterate 8 with_reducible refine Keeps.setCell ?_ (by simp) _
    exact HK.out
  have hdl : ((l.length : Int) != 18 + (P : Int) + 3) = false := by simp; omega
  have HLEN := Lib.hid hlen
  have h21 : 21 ≤ l.length := by omega
  have h61 : l.length ≤ 61 := by omega
  have HYES := Lib.hid (HPM.out hlen (by omega) (by omega))
  have HPMV := Lib.hid (HPV.out (by omega))
  clear hlen HN1 HN2 HN3 HPM HPV
  have c15 := HCE.out 15 (by omega)
  have c16 := HCE.out 16 (by omega)
  have c17 := HCE.out 17 (by omega)
  obtain ⟨D, hD⟩ : ∃ D, D = l.getD 15 0 := ⟨_, rfl⟩
  obtain ⟨E, hE⟩ : ∃ E, E = l.getD 16 0 := ⟨_, rfl⟩
  obtain ⟨c, hc⟩ : ∃ c, c = l.getD 17 0 := ⟨_, rfl⟩
  have hD256 := getD_lt hb 15
  have hE256 := getD_lt hb 16
  have hc256 := getD_lt hb 17
  rw [← hD] at c15 HPMV hD256
  rw [← hE] at c16 HPMV hE256
  rw [← hc] at c17 HPMV hc256
  clear hD hE hc
  go_enter Try.func52, Try.ntmps52
  go_upto_region 1 with fail
  go_quiet (fail)
  obtain ⟨X, hX⟩ : ∃ X, X = (w.alloc (.cells #[.int .i64 0, .int .i64 0, .int .i64 0, .int .i64 0, .int .i64 0, .int .i64 0, .slice none 0 0, .slice none 0 0] 25)).drewN nq := ⟨_, rfl⟩
  have HZ : Hid (Box X w.heap.size 25 #[.int .i64 0, .int .i64 0, .int .i64 0, .int .i64 0, .int .i64 0, .int .i64 0, .slice none 0 0, .slice none 0 0]) := Lib.hid (by rw [hX]; exact (Box.new w 25 #[.int .i64 0, .int .i64 0, .int .i64 0, .int .i64 0, .int .i64 0, .int .i64 0, .slice none 0 0, .slice none 0 0]).keeps ((Keeps.refl _).drewN nq))
  have HK : Hid (Keeps w X) := Lib.hid (by rw [hX]; exact ((Keeps.refl w).alloc _).drewN nq)
  rw [← hX]
  clear hX
  have hng : w.heap.size ≤ X.heap.size := HK.out.size
  obtain ⟨S, hS⟩ : ∃ S, S = numB l 3 4 := ⟨_, rfl⟩
  obtain ⟨G, hG⟩ : ∃ G, G = numB l 7 4 := ⟨_, rfl⟩
  obtain ⟨W, hW⟩ : ∃ W, W = numB l 11 4 := ⟨_, rfl⟩
  have HTS : Hid (∀ cur, Keeps w cur → Calls Try.prog 96 #[.slice (some ⟨b, off + 3, none⟩) 4 (cap - 3)] cur fun e w' => e = .returned (.int .i64 (S : Nat)) ∧ w' = cur) := Lib.hid (fun cur h => by rw [hS]; exact number_at (hr.keeps h) hb hc1 hc2 3 4 (by decide) (by omega))
  have HTG : Hid (∀ cur, Keeps w cur → Calls Try.prog 96 #[.slice (some ⟨b, off + 7, none⟩) 4 (cap - 7)] cur fun e w' => e = .returned (.int .i64 (G : Nat)) ∧ w' = cur) := Lib.hid (fun cur h => by rw [hG]; exact number_at (hr.keeps h) hb hc1 hc2 7 4 (by decide) (by omega))
  have HTW : Hid (∀ cur, Keeps w cur → Calls Try.prog 96 #[.slice (some ⟨b, off + 11, none⟩) 4 (cap - 11)] cur fun e w' => e = .returned (.int .i64 (W : Nat)) ∧ w' = cur) := Lib.hid (fun cur h => by rw [hW]; exact number_at (hr.keeps h) hb hc1 hc2 11 4 (by decide) (by omega))
  rw [← hS, ← hG, ← hW] at HPMV
  clear hS hG hW
  have hwn1 : IntKind.i64.wrap (n : Int) = n := by simp [IntKind.wrap, IntKind.bits, IntKind.signed]; omega
  have hwD : IntKind.i64.wrap (D : Int) = D := by simp [IntKind.wrap, IntKind.bits, IntKind.signed]; omega
  have hwE : IntKind.i64.wrap (E : Int) = E := by simp [IntKind.wrap, IntKind.bits, IntKind.signed]; omega
  have hwk : IntKind.i64.wrap (k : Int) = k := by simp [IntKind.wrap, IntKind.bits, IntKind.signed]; omega
  have i1 : (1 : Int) < (l.length : Int) := by omega
  have i2 : (2 : Int) < (l.length : Int) := by omega
  have i15 : (15 : Int) < (l.length : Int) := by omega
  have i16 : (16 : Int) < (l.length : Int) := by omega
  have i17 : (17 : Int) < (l.length : Int) := by omega
  have s7 : (7 : Int) ≤ (cap : Int) := by omega
  have s11 : (11 : Int) ≤ (cap : Int) := by omega
  have s15 : (15 : Int) ≤ (cap : Int) := by omega
  have s3' : ¬ cap = 3 := by omega
  have s7' : ¬ cap = 7 := by omega
  have s11' : ¬ cap = 11 := by omega
  go_upto_region 3 with fail
  go_cut [4] (fun v wx => ∃ g, v = .pointer (some ⟨g, 0, none⟩) ∧ Hid (PZ w wx g #[.int .i64 ((n : Nat) : Int), .int .i64 ((S : Nat) : Int), .int .i64 ((G : Nat) : Int), .int .i64 ((W : Nat) : Int), .int .i64 ((D : Nat) : Int), .int .i64 ((E : Nat) : Int), .slice none 0 0, .slice none 0 0]))
  case first =>
    go_region_held3 (fun w' => w'.cell? ⟨b, off + 1, none⟩ = some (.int .u8 n) ∧ w'.cell? ⟨b, off + 15, none⟩ = some (.int .u8 D) ∧ w'.cell? ⟨b, off + 16, none⟩ = some (.int .u8 E))
      ((refine ⟨Keeps.later (a := w) ?_ c1, Keeps.later (a := w) ?_ c15, Keeps.later (a := w) ?_ c16⟩ <;> repeat (first | with_reducible exact HK.out | with_reducible refine Keeps.setCell ?_ hng _ | with_reducible refine Keeps.alloc ?_ _ | with_reducible refine Keeps.drew ?_)))
      (first
        | (go_at_call 96; (with_reducible refine (HTS.out _ ?_).mono ?_); (repeat (first | with_reducible exact HK.out | with_reducible refine Keeps.setCell ?_ hng _ | with_reducible refine Keeps.alloc ?_ _ | with_reducible refine Keeps.drew ?_)); rintro e u ⟨rfl, rfl⟩)
        | (go_at_call 96; (with_reducible refine (HTG.out _ ?_).mono ?_); (repeat (first | with_reducible exact HK.out | with_reducible refine Keeps.setCell ?_ hng _ | with_reducible refine Keeps.alloc ?_ _ | with_reducible refine Keeps.drew ?_)); rintro e u ⟨rfl, rfl⟩)
        | (go_at_call 96; (with_reducible refine (HTW.out _ ?_).mono ?_); (repeat (first | with_reducible exact HK.out | with_reducible refine Keeps.setCell ?_ hng _ | with_reducible refine Keeps.alloc ?_ _ | with_reducible refine Keeps.drew ?_)); rintro e u ⟨rfl, rfl⟩))
    all_goals
      go_wp2_with fail
      go_meet
      exact ⟨X.heap.size, rfl, Lib.hid ⟨(HK.out.alloc _).drew, (HZ.out.next _).keeps (Keeps.refl _).drew, (Box.new X 25 _).keeps (Keeps.refl _).drew, HZ.out.lt⟩⟩
  case rest =>
    obtain ⟨Mb, rfl, HP⟩ := hcut
    clear HTS HTG HTW HZ HK s7 s11 s15 s3' s7' s11' hng
    have hM := HP.out.hM
    have HPd := Lib.hid (HP.out.keep (Keeps.refl wc).drew)
    clear HP
    go_upto_region 4 with fail
    go_region_held3 (fun w' => w'.cell? ⟨b, off + 17, none⟩ = some (.int .u8 c) ∧ w'.cell? ⟨Mb, 0, none⟩ = some (.int .i64 n))
      ((first | exact ⟨Keeps.later HP2.out.keeps c17, HP2.out.m.cell 0 _ rfl⟩ | exact ⟨Keeps.later HP1.out.keeps c17, HP1.out.m.cell 0 _ rfl⟩ | exact ⟨Keeps.later HPd.out.keeps c17, HPd.out.m.cell 0 _ rfl⟩))
      (first
        | (go_at_call 97; (with_reducible refine (rlist7_any c n _ hc256 (by omega)).mono ?_); rintro e u ⟨v, rfl, hown, hk⟩; obtain ⟨va, vcap, hv, hv1, hv2, -⟩ := hown.shape; rw [List.length_map, truthsOf_len] at hv hv1; subst hv; have HP1 := Lib.hid (HPd.out.keep hk); have HP2 := Lib.hid (HP1.out.put 6 (.slice va n vcap) rfl); have HC1 := Lib.hid hown; have hku := hk.size; have m6 := HP1.out.m.cell 6 _ rfl; have mf := HP1.out.m.frozen; have ml := HP1.out.m.lt; clear hown hk))
    all_goals
      have hMd := HPd.out.m.lt
      have hCB : Bools (u.setCell ⟨Mb, 6, none⟩ (.slice va n vcap)) (.slice va n vcap) (truthsOf (c : Int) n) := (HC1.out.keepsBut (KeepsBut.setCell u Mb 6 (.slice va n vcap)) (fun e => by have := (HC1.out.lt _ e).1; omega)).bools
      have hMbs : Mb < u.heap.size := HP1.out.m.lt
      have hCF : ∀ x, Value.ownBlock (.slice va n vcap) = some x → Mb < x ∧ x < u.heap.size := fun x e => by have := HC1.out.lt x e; omega
      have HXB := Lib.hid (OwnX.nil (u.setCell ⟨Mb, 6, none⟩ (.slice va n vcap)) u.heap.size)
      have hszB : u.heap.size ≤ (u.setCell ⟨Mb, 6, none⟩ (.slice va n vcap)).heap.size := by simp
      obtain ⟨bs, hbs⟩ : ∃ bs, bs = u.heap.size := ⟨_, rfl⟩
      rw [← hbs] at HXB hszB hCF ml hMbs
      have HCB := Lib.hid hCB
      have HCF := Lib.hid hCF
      clear HC1 HP1 HPd hku hMd hCB hCF hbs m6 mf
      obtain ⟨U, hU⟩ : ∃ U, U = u.setCell ⟨Mb, 6, none⟩ (.slice va n vcap) := ⟨_, rfl⟩
      rw [← hU] at HP2 HXB hszB HCB ⊢
      clear hU
      go_wp2_with fail
      go_loopw [5, 6] (fun atv i wr => ∃ (j : Nat) (v : Value) (xs : List RM), j ≤ k ∧ i = .int .i64 j ∧ atv = .int .i64 ((18 + j * (n + 2) : Nat) : Int) ∧ Hid (PZ w wr Mb #[.int .i64 ((n : Nat) : Int), .int .i64 ((S : Nat) : Int), .int .i64 ((G : Nat) : Int), .int .i64 ((W : Nat) : Int), .int .i64 ((D : Nat) : Int), .int .i64 ((E : Nat) : Int), .slice va n vcap, v]) ∧ Hid (Bools wr (.slice va n vcap) (truthsOf (c : Int) n)) ∧ Hid (OwnX wr bs v xs) ∧ Hid (xs.map RM.p = (List.range j).map fun i => (pMode l n k (18 + i * (n + 2))).p) ∧ bs ≤ wr.heap.size) (fun _ i _ => k - (intOf i).toNat)
      case atStart => exact ⟨0, .slice none 0 0, [], by omega, rfl, by simp, HP2, HCB, HXB, Lib.hid rfl, hszB⟩
      case round =>
        clear HP2 HCB HXB hszB
        obtain ⟨j, v, xs, hj, rfl, rfl, HP, HC, HX, HXP, hsz⟩ := hrel
        have cc2 := Keeps.later HP.out.keeps c2
        by_cases hlt : j < k
        · have hmul : (j + 1) * (n + 2) ≤ k * (n + 2) := Nat.mul_le_mul_right _ (by omega)
          rw [HPP.out, Nat.add_mul] at hmul
          obtain ⟨q, hq⟩ : ∃ q, q = 18 + j * (n + 2) := ⟨_, rfl⟩
          have HQ2 := Lib.hid (show 18 + (j + 1) * (n + 2) = q + n + 2 by rw [hq, Nat.add_mul]; omega)
          have hqb : q + n + 2 + 3 ≤ l.length := by have := HLEN.out; omega
          have HQ := Lib.hid hq
          rw [← hq]
          clear hq hmul
          have hdj : decide ((j : Int) < (k : Int)) = true := by simp; omega
          have hdj' : decide (j < k) = true := by simp; omega
          have HPX := Lib.hid (HP.out.keep ((Keeps.refl wr).alloc (.cells #[.slice none 0 0, .slice none 0 0, .slice none 0 0] 71)))
          have HBX := Lib.hid (Box.new wr 71 #[.slice none 0 0, .slice none 0 0, .slice none 0 0])
          have HKB := Lib.hid ((Keeps.refl wr).alloc (.cells #[.slice none 0 0, .slice none 0 0, .slice none 0 0] 71))
          have HV : Hid (∀ b, v.ownBlock = some b → b < wr.heap.size) := Lib.hid (fun b e => (HX.out.lt b e).2)
          have hMr := HP.out.m.lt
          have HDX := Lib.hid (Own.nil (wr.alloc (.cells #[.slice none 0 0, .slice none 0 0, .slice none 0 0] 71)) (wr.heap.size + 1) 3)
          have hszx : wr.heap.size + 1 ≤ (wr.alloc (.cells #[.slice none 0 0, .slice none 0 0, .slice none 0 0] 71)).heap.size := by simp
          go_wp2_with fail
          obtain ⟨wo, hwo⟩ : ∃ wo, wo = wr := ⟨_, rfl⟩
          rw [← hwo] at HP HC HX HPX HBX HKB HV HDX hMr hsz hszx ⊢
          clear hwo cc2
          go_loopw [8] (fun i ws => ∃ (t : Nat) (d : Value), t ≤ n ∧ i = .int .i64 t ∧ Hid (Keeps wo ws) ∧ Hid (Box ws wo.heap.size 71 #[d, .slice none 0 0, .slice none 0 0]) ∧ Hid (Own ws (wo.heap.size + 1) 3 d (((List.range t).map fun i => tk l (q + i)).map (Value.int .i64))) ∧ wo.heap.size + 1 ≤ ws.heap.size) (fun i _ => n - (intOf i).toNat)
          case atStart => exact ⟨0, .slice none 0 0, by omega, rfl, HKB, HBX, HDX, hszx⟩
          case round =>
            clear HKB HBX HDX hszx HPX
            obtain ⟨t, d, ht, rfl, HKB, HB, HD, hszw⟩ := hrel
            have hPW := HP.out.keep HKB.out
            have m0 := hPW.m.cell 0 _ rfl
            have ml := hPW.m.lt
            by_cases htl : t < n
            · have hdt : decide ((t : Int) < (n : Int)) = true := by simp; omega
              have hdt' : decide (t < n) = true := by simp; omega
              have hs1 : ((List.range (t + 1)).map fun i => tk l (q + i)).map (Value.int .i64) = ((List.range t).map fun i => tk l (q + i)).map (Value.int .i64) ++ [.int .i64 ((l.getD (q + t) 0 : Nat) : Int)] := by
                rw [← tk_in l (q + t) (by omega), List.range_succ]; simp
              have ct := HCE.out (q + t) (by omega)
              have hx256 := getD_lt hb (q + t)
              obtain ⟨x, hx⟩ : ∃ x, x = l.getD (q + t) 0 := ⟨_, rfl⟩
              rw [← hx] at hs1 ct hx256
              have HS1 := Lib.hid hs1
              have hdl : (((List.range t).map fun i => tk l (q + i)).map (Value.int .i64)).length = t := by simp
              obtain ⟨L, hL⟩ : ∃ L, L = ((List.range t).map fun i => tk l (q + i)).map (Value.int .i64) := ⟨_, rfl⟩
              rw [← hL] at HD HS1 hdl
              clear hs1 hL hx
              have hwx : IntKind.i64.wrap (x : Int) = x := by simp [IntKind.wrap, IntKind.bits, IntKind.signed]; omega
              have hwq : IntKind.i64.wrap ((q : Int) + t) = (q : Int) + t := by simp [IntKind.wrap, IntKind.bits, IntKind.signed]; omega
              have hi0 : (0 : Int) ≤ (q : Int) + t := by omega
              have hi1 : (q : Int) + t < (l.length : Int) := by omega
              have hi2 : ((q : Int) + t).toNat = q + t := by omega
              have hi3 : decide ((q : Int) + t < 0) = false := by simp; omega
              have hi4 : decide ((l.length : Int) ≤ (q : Int) + t) = false := by simp; omega
              have ctd : (World.drew wr).cell? ⟨b, off + (q + t), none⟩ = some (.int .u8 (x : Int)) := Keeps.later hPW.keeps.drew ct
              have HBd := Lib.hid (HB.out.keeps (Keeps.refl wr).drew)
              have HOd := Lib.hid (HD.out.keeps (Keeps.refl wr).drew)
              have HKd := Lib.hid (HKB.out.drew)
              have x0 := HBd.out.cell 0 _ rfl
              have xl := HBd.out.lt
              have y0 := HB.out.cell 0 _ rfl
              have yl := HB.out.lt
              have cty := Keeps.later hPW.keeps ct
              go_upto_region 13 with fail
              clear m0 ml HB HD HKB hPW
              go_region_law (first
                | (refine step_pushI rfl (.tmp 89) (.tmp 97) rfl (wo.heap.size + 1) d L (by rfl) (by exact HOd.out.keeps ((Keeps.refl wr.drew).alloc _)) wr.heap.size x (by rfl) (by exact Box.new wr.drew 3 #[.int .i64 x]) (by rw [hdl]; omega) (by simp; omega) ?_; intro v' w2 hown hbel; obtain ⟨da, dcap, hdv, -, -, -⟩ := hown.shape; have hll : (L ++ [Value.int .i64 x]).length = t + 1 := (by rw [List.length_append, hdl]; rfl); rw [hll] at hdv; subst hdv; have HB2 := Lib.hid ((HBd.out.next (.cells #[.int .i64 x] 3)).below hbel (by omega)); have HO2 := Lib.hid hown; have HK2 := Lib.hid ((HKd.out.alloc (.cells #[.int .i64 x] 3)).below hbel (by omega)); have z0 := HB2.out.cell 0 _ rfl; have zl := HB2.out.lt; have zf := HB2.out.frozen; clear hown hbel))
              all_goals
                clear x0 xl HBd HOd HKd y0 yl cty
                go_wp2_with fail
                go_roundw
                case rel =>
                  refine ⟨t + 1, .slice da (t + 1) dcap, by omega, by go_num, Lib.hid (HK2.out.setCell (show wo.heap.size ≤ wo.heap.size from Nat.le_refl _) _), Lib.hid (HB2.out.put 0 _), ?_, by simp; omega⟩
                  rw [HS1.out]
                  exact Lib.hid (HO2.out.keepsBut (KeepsBut.setCell _ _ _ _) (fun e => by have := (HO2.out.lt _ e).1; omega))
                case measure => simp [intOf]; omega
            · obtain rfl : t = n := by omega
              obtain ⟨da, dcap, hdv, hdc1, hdc2, -⟩ := HD.out.shape
              have hdl : (((List.range t).map fun i => tk l (q + i)).map (Value.int .i64)).length = t := by simp
              rw [hdl] at hdv hdc1
              subst hdv
              obtain ⟨va2, vcap2, hvv, -⟩ := HX.out.rms
              subst hvv
              have ct := HCE.out (q + t) (by omega)
              have ct1 := HCE.out (q + t + 1) (by omega)
              have hx256 := getD_lt hb (q + t)
              have hy256 := getD_lt hb (q + t + 1)
              have hxpm : (xs.map RM.p) ++ [((List.range t).map (fun i => tk l (q + i)), truthsOf ((l.getD (q + t) 0 : Nat) : Int) t, truthsOf ((l.getD (q + t + 1) 0 : Nat) : Int) k)] = (List.range (j + 1)).map fun i => (pMode l t k (18 + i * (t + 2))).p := by
                rw [HXP.out, List.range_succ (n := j), List.map_append, ← tk_in l (q + t) (by omega), ← tk_in l (q + t + 1) (by omega)]
                simp only [List.map_cons, List.map_nil, ← HQ.out]
                rfl
              obtain ⟨x, hx⟩ : ∃ x, x = l.getD (q + t) 0 := ⟨_, rfl⟩
              obtain ⟨y, hy⟩ : ∃ y, y = l.getD (q + t + 1) 0 := ⟨_, rfl⟩
              rw [← hx] at ct hx256 hxpm
              rw [← hy] at ct1 hy256 hxpm
              obtain ⟨zd, hzd⟩ : ∃ z, z = (List.range t).map fun i => tk l (q + i) := ⟨_, rfl⟩
              rw [← hzd] at HD hxpm
              have HXPM := Lib.hid hxpm
              clear hxpm hzd hdl HXP hx hy
              have hwq0 : IntKind.i64.wrap ((q : Int) + t) = (q : Int) + t := by simp [IntKind.wrap, IntKind.bits, IntKind.signed]; omega
              have hwq1 : IntKind.i64.wrap ((q : Int) + t + 1) = (q : Int) + t + 1 := by simp [IntKind.wrap, IntKind.bits, IntKind.signed]; omega
              have hi0 : (0 : Int) ≤ (q : Int) + t := by omega
              have hi1 : (q : Int) + t < (l.length : Int) := by omega
              have hi2 : ((q : Int) + t).toNat = q + t := by omega
              have hj0 : (0 : Int) ≤ (q : Int) + t + 1 := by omega
              have hj1 : (q : Int) + t + 1 < (l.length : Int) := by omega
              have hj2 : ((q : Int) + t + 1).toNat = q + t + 1 := by omega
              have hdt : decide ((t : Int) < (t : Int)) = false := by simp
              have hdt' : decide (t < t) = false := by simp
              have hPWd := hPW.keep (Keeps.refl _).drew
              have HPW := Lib.hid hPWd
              have HBd := Lib.hid (HB.out.keeps (Keeps.refl wr).drew)
              have HOd := Lib.hid (HD.out.keeps (Keeps.refl wr).drew)
              have HKd := Lib.hid (HKB.out.drew)
              go_upto_region 14 with fail
              clear hPW hPWd m0 ml HB HD HKB
              go_region_held3 (fun w' => w'.cell? ⟨b, off + (q + t), none⟩ = some (.int .u8 x) ∧ w'.cell? ⟨Mb, 0, none⟩ = some (.int .i64 t))
                ((first | exact ⟨Keeps.later HP2.out.keeps ct, HP2.out.m.cell 0 _ rfl⟩ | exact ⟨Keeps.later HP1.out.keeps ct, HP1.out.m.cell 0 _ rfl⟩ | exact ⟨Keeps.later HPW.out.keeps ct, HPW.out.m.cell 0 _ rfl⟩))
                (first
                  | (go_at_call 97; (with_reducible refine (rlist7_any x t _ hx256 (by omega)).mono ?_); rintro e u ⟨v, rfl, hown, hk⟩; obtain ⟨ea, ecap, hv, hev1, hev2, -⟩ := hown.shape; rw [List.length_map, truthsOf_len] at hv hev1; subst hv; have HP1 := Lib.hid (HPW.out.keep hk); have HE1 := Lib.hid hown; have HB1 := Lib.hid (HBd.out.keeps hk); have HO1 := Lib.hid (HOd.out.keeps hk); have HK1 := Lib.hid (HKd.out.trans hk); have HP2 := Lib.hid (PZ.setNew HP1.out (X := wo.heap.size) hMr 1 (.slice ea t ecap)); have x1 := HB1.out.cell 1 _ rfl; have xf := HB1.out.frozen; have xl := HB1.out.lt; clear hown hk))
              all_goals
                have hB2 := HB1.out.put 1 (.slice ea t ecap)
                have hO2 := HO1.out.keepsBut (KeepsBut.setCell u wo.heap.size 1 (.slice ea t ecap)) (fun e => by have := (HO1.out.lt _ e).1; omega)
                have hE2 := HE1.out.keepsBut (KeepsBut.setCell u wo.heap.size 1 (.slice ea t ecap)) (fun e => by have := (HE1.out.lt _ e).1; have := HBd.out.lt; omega)
                have hK2 := HK1.out.setCell (p := ⟨wo.heap.size, 1, none⟩) (show wo.heap.size ≤ wo.heap.size from Nat.le_refl _) (.slice ea t ecap)
                have hEb : ∀ z, Value.ownBlock (.slice ea t ecap) = some z → wo.heap.size < z := fun z e => by have := (HE1.out.lt z e).1; have := HBd.out.lt; omega
                have HEB := Lib.hid hEb
                obtain ⟨U1, hU1⟩ : ∃ U1, U1 = u.setCell ⟨wo.heap.size, 1, none⟩ (.slice ea t ecap) := ⟨_, rfl⟩
                rw [← hU1] at HP2 hB2 hO2 hE2 hK2 ⊢
                have HPA := Lib.hid (HP2.out.keep (Keeps.refl U1).drew)
                have HBA : Hid (Box U1.drew wo.heap.size 71 #[.slice da t dcap, .slice ea t ecap, .slice none 0 0]) := Lib.hid (hB2.keeps (Keeps.refl U1).drew)
                have HOA := Lib.hid (hO2.keeps (Keeps.refl U1).drew)
                have HEA := Lib.hid (hE2.keeps (Keeps.refl U1).drew)
                have HKA := Lib.hid hK2.drew
                clear hU1 hB2 hO2 hE2 hK2 hEb HP2 HP1 HB1 HO1 HE1 HK1 HPW HBd HOd HKd x1 xf xl
                go_upto_region 15 with fail
                go_region_held3 (fun w' => w'.cell? ⟨b, off + (q + t + 1), none⟩ = some (.int .u8 y) ∧ w'.cell? ⟨Mb, 0, none⟩ = some (.int .i64 t) ∧ w'.cell? ⟨b, off + 2, none⟩ = some (.int .u8 k))
                  ((first | exact ⟨Keeps.later HP2.out.keeps ct1, HP2.out.m.cell 0 _ rfl, Keeps.later HP2.out.keeps c2⟩ | exact ⟨Keeps.later HP1.out.keeps ct1, HP1.out.m.cell 0 _ rfl, Keeps.later HP1.out.keeps c2⟩ | exact ⟨Keeps.later HPA.out.keeps ct1, HPA.out.m.cell 0 _ rfl, Keeps.later HPA.out.keeps c2⟩))
                  (first
                    | (go_at_call 97; (with_reducible refine (rlist7_any y k _ hy256 (by omega)).mono ?_); rintro e u ⟨v, rfl, hown, hk⟩; obtain ⟨fa, fcap, hv, hfv1, hfv2, -⟩ := hown.shape; rw [List.length_map, truthsOf_len] at hv hfv1; subst hv; have HP1 := Lib.hid (HPA.out.keep hk); have HF1 := Lib.hid hown; have HE1 := Lib.hid (HEA.out.keeps hk); have HB1 := Lib.hid (HBA.out.keeps hk); have HO1 := Lib.hid (HOA.out.keeps hk); have HK1 := Lib.hid (HKA.out.trans hk); have HP2 := Lib.hid (PZ.setNew HP1.out (X := wo.heap.size) hMr 2 (.slice fa k fcap)); have x2 := HB1.out.cell 2 _ rfl; have xf := HB1.out.frozen; have xl := HB1.out.lt; clear hown hk))
                all_goals
                  have hB2 := HB1.out.put 2 (.slice fa k fcap)
                  have hO2 := HO1.out.keepsBut (KeepsBut.setCell u wo.heap.size 2 (.slice fa k fcap)) (fun e => by have := (HO1.out.lt _ e).1; omega)
                  have hE2 := HE1.out.keepsBut (KeepsBut.setCell u wo.heap.size 2 (.slice fa k fcap)) (fun e => by have := HEB.out _ e; omega)
                  have hF2 := HF1.out.keepsBut (KeepsBut.setCell u wo.heap.size 2 (.slice fa k fcap)) (fun e => by have := (HF1.out.lt _ e).1; have := HBA.out.lt; omega)
                  have hK2 := HK1.out.setCell (p := ⟨wo.heap.size, 2, none⟩) (show wo.heap.size ≤ wo.heap.size from Nat.le_refl _) (.slice fa k fcap)
                  have hFb : ∀ z, Value.ownBlock (.slice fa k fcap) = some z → wo.heap.size < z := fun z e => by have := (HF1.out.lt z e).1; have := HBA.out.lt; omega
                  obtain ⟨U2, hU2⟩ : ∃ U2, U2 = u.setCell ⟨wo.heap.size, 2, none⟩ (.slice fa k fcap) := ⟨_, rfl⟩
                  rw [← hU2] at HP2 hB2 hO2 hE2 hF2 hK2 ⊢
                  have hYF : ∀ z, RM.at ⟨.slice da t dcap, .slice ea t ecap, .slice fa k fcap, zd, truthsOf (x : Int) t, truthsOf (y : Int) k⟩ z → wo.heap.size ≤ z ∧ z < U2.heap.size := fun z hz => by
                    rcases hz with e | e | e
                    · have := hO2.lt z e; omega
                    · have := hE2.lt z e; have := HEB.out z e; omega
                    · have := hF2.lt z e; have := hFb z e; omega
                  have HX3 := Lib.hid (HX.out.low hK2.size (fun z _ h2 => hK2.block z h2))
                  have HC3 := Lib.hid (HC.out.keeps hK2)
                  have HYI : Hid (RM.In ⟨.slice da t dcap, .slice ea t ecap, .slice fa k fcap, zd, truthsOf (x : Int) t, truthsOf (y : Int) k⟩ U2) := Lib.hid ⟨hO2.ints, hE2.bools, hF2.bools⟩
                  have HYF := Lib.hid hYF
                  have hszU : bs ≤ U2.heap.size := by have := hK2.size; omega
                  have hB3 : Box U2 wo.heap.size 71 #[.slice da t dcap, .slice ea t ecap, .slice fa k fcap] := hB2
                  have x0' := hB3.cell 0 _ rfl
                  have x1' := hB3.cell 1 _ rfl
                  have x2' := hB3.cell 2 _ rfl
                  have xl' := hB3.lt
                  have m7 := HP2.out.m.cell 7 _ rfl
                  have ml := HP2.out.m.lt
                  have mf := HP2.out.m.frozen
                  have hxl : xs.length = j := by
                    have := congrArg List.length HXPM.out
                    simp at this
                    exact this
                  have HXL := Lib.hid hxl
                  clear hxl hB3 hB2 hO2 hE2 hF2 hK2 hFb hYF hU2 HP1 HF1 HE1 HB1 HO1 HK1 HPA HBA HOA HEA HKA x2 xf xl HX HC
                  go_wp2_with (refine wpList_pushX rfl (.tmp 126) (.tmp 128) rfl bs (.slice va2 xs.length vcap2) xs ?a0 ?a1 U2.heap.size ⟨.slice da t dcap, .slice ea t ecap, .slice fa k fcap, zd, truthsOf (x : Int) t, truthsOf (y : Int) k⟩ ?a2 ?a3 ?a4 ?a5 ?a6 ?a7 ?a8 ?hmain)
                  case a0 => rfl
                  case a1 => exact HX3.out.low (by simp) (fun b _ h2 => ((Keeps.refl _).alloc _).block b h2)
                  case a2 => rfl
                  case a3 => exact Box.new _ _ _
                  case a4 => intro u hu; simp only [RM.cells, List.mem_cons, List.not_mem_nil, or_false] at hu; rcases hu with rfl | rfl | rfl <;> rfl
                  case a5 => exact HYI.out.keeps ((Keeps.refl _).alloc _)
                  case a6 =>
                    intro b hb
                    obtain ⟨h1, h2⟩ := HYF.out b hb
                    refine ⟨by omega, by rw [World.size_alloc]; omega, fun e => ?_⟩
                    have := HV.out b e
                    omega
                  case a7 => rw [HXL.out]; omega
                  case a8 => rw [World.size_alloc]; omega
                  case hmain =>
                    intro v' w4 hown hg
                    obtain ⟨va', vcap', hv', -⟩ := hown.rms
                    have hlen' : (xs ++ [(⟨.slice da t dcap, .slice ea t ecap, .slice fa k fcap, zd, truthsOf (x : Int) t, truthsOf (y : Int) k⟩ : RM)]).length = j + 1 := by simp [HXL.out]
                    rw [hlen'] at hv'
                    subst hv'
                    have hvM : ∀ b, Value.ownBlock (.slice va2 xs.length vcap2) = some b → bs ≤ b := fun b e => (HX3.out.lt b e).1
                    have hP4 := (HP2.out.keep ((Keeps.refl _).alloc (.cells #[.slice da t dcap, .slice ea t ecap, .slice fa k fcap] 71))).grown hg (fun b e => by have := hvM b e; omega)
                    have hC4 : Bools w4 (.slice va t vcap) (truthsOf (c : Int) t) := (HC3.out.keeps ((Keeps.refl _).alloc (.cells #[.slice da t dcap, .slice ea t ecap, .slice fa k fcap] 71))).blocks (fun z e hz => hg.block z hz (fun e2 => by have := hvM z e2.symm; have := (HCF.out z e).2; omega))
                    have HP5 : Hid (PZ w (w4.setCell ⟨Mb, 7, none⟩ (.slice va' (j + 1) vcap')) Mb #[.int .i64 ((t : Nat) : Int), .int .i64 ((S : Nat) : Int), .int .i64 ((G : Nat) : Int), .int .i64 ((W : Nat) : Int), .int .i64 ((D : Nat) : Int), .int .i64 ((E : Nat) : Int), .slice va t vcap, .slice va' (j + 1) vcap']) := Lib.hid (hP4.put 7 (.slice va' (j + 1) vcap') rfl)
                    have HC5 : Hid (Bools (w4.setCell ⟨Mb, 7, none⟩ (.slice va' (j + 1) vcap')) (.slice va t vcap) (truthsOf (c : Int) t)) := Lib.hid (hC4.blocks (fun z e hz => (KeepsBut.setCell w4 Mb 7 (.slice va' (j + 1) vcap')).block z hz (by have := (HCF.out z e).1; omega)))
                    have HX5 : Hid (OwnX (w4.setCell ⟨Mb, 7, none⟩ (.slice va' (j + 1) vcap')) bs (.slice va' (j + 1) vcap') (xs ++ [⟨.slice da t dcap, .slice ea t ecap, .slice fa k fcap, zd, truthsOf (x : Int) t, truthsOf (y : Int) k⟩])) := Lib.hid (hown.but (KeepsBut.setCell _ _ _ _) hMbs)
                    have hsz5 : bs ≤ (w4.setCell ⟨Mb, 7, none⟩ (.slice va' (j + 1) vcap')).heap.size := by have := hg.size; simp at this ⊢; omega
                    have m7' := hP4.m.cell 7 _ rfl
                    have m0' := hP4.m.cell 0 _ rfl
                    have ml' := hP4.m.lt
                    have mf' := hP4.m.frozen
                    clear hP4 hC4 hown hg HP2 HC3 HX3 HYI HYF x0' x1' x2' xl' m7 ml mf
                    go_wp2_with fail
                    go_roundw
                    case rel => exact ⟨j + 1, .slice va' (j + 1) vcap', xs ++ [⟨.slice da t dcap, .slice ea t ecap, .slice fa k fcap, zd, truthsOf (x : Int) t, truthsOf (y : Int) k⟩], by omega, by go_num, by rw [HQ2.out]; go_num, HP5, HC5, HX5, Lib.hid (by rw [List.map_append]; exact HXPM.out), hsz5⟩
                    case measure => simp [intOf]; omega
        · obtain rfl : j = k := by omega
          have hdj : decide ((j : Int) < (j : Int)) = false := by simp
          have hdj' : decide (j < j) = false := by simp
          obtain ⟨va2, vcap2, hvv, hrms⟩ := HX.out.rms
          subst hvv
          have hxl : xs.length = j := by
            have := congrArg List.length HXP.out
            simpa using this
          rw [hxl] at hrms HP HX
          have hIN : RMedl.In ⟨n, S, G, W, D, E, .slice va n vcap, truthsOf (c : Int) n, va2, j, vcap2, xs⟩ wr := ⟨HC.out, hrms⟩
          have hsame : sameL ⟨n, S, G, W, D, E, .slice va n vcap, truthsOf (c : Int) n, va2, j, vcap2, xs⟩ (pMedl l) = true := by
            rw [sameL_iff, HPMV.out]
            refine ⟨rfl, rfl, rfl, rfl, rfl, rfl, rfl, ?_⟩
            simp only [List.map_map]
            exact HXP.out
          obtain ⟨m, hm⟩ : ∃ m : RMedl, m = ⟨n, S, G, W, D, E, .slice va n vcap, truthsOf (c : Int) n, va2, j, vcap2, xs⟩ := ⟨_, rfl⟩
          rw [← hm] at hIN hsame
          have hmv : m.val = .agg #[.int .i64 ((n : Nat) : Int), .int .i64 ((S : Nat) : Int), .int .i64 ((G : Nat) : Int), .int .i64 ((W : Nat) : Int), .int .i64 ((D : Nat) : Int), .int .i64 ((E : Nat) : Int), .slice va n vcap, .slice va2 j vcap2] := by rw [hm]
          have HIN := Lib.hid hIN
          have HINF : Hid (∀ cur, Bools cur (.slice va n vcap) (truthsOf (c : Int) n) → OwnX cur bs (.slice va2 j vcap2) xs → m.In cur) := Lib.hid (fun cur h1 h2 => by
            rw [hm]
            obtain ⟨va3, vcap3, hv2, hr2⟩ := h2.rms
            simp only [Value.slice.injEq] at hv2
            obtain ⟨rfl, hl2, rfl⟩ := hv2
            rw [← hl2] at hr2
            exact ⟨h1, hr2⟩)
          have HSA := Lib.hid hsame
          have HBC : Hid (∀ cur, m.In cur → Calls Try.prog 50 #[.agg #[.int .i64 ((n : Nat) : Int), .int .i64 ((S : Nat) : Int), .int .i64 ((G : Nat) : Int), .int .i64 ((W : Nat) : Int), .int .i64 ((D : Nat) : Int), .int .i64 ((E : Nat) : Int), .slice va n vcap, .slice va2 j vcap2]] cur fun e w' => ∃ v, e = .returned (.tuple #[v, .int .i64 (medlErr m)]) ∧ Own w' cur.heap.size 5 v (u8s (bytesRes m)) ∧ Keeps cur w') := Lib.hid (fun cur h => by have := rbytes_any m cur h; rw [hmv] at this; exact this)
          have HMV := Lib.hid hmv
          have HYES2 : Hid (goodP l = true ↔ medlOk m = true ∧ medlBytes m = l) := Lib.hid (by rw [HYES.out, same_ok hsame, same_bytes hsame])
          clear hxl hrms hIN hsame hm hmv HXP HPMV HYES
          have m0 := HP.out.m.cell 0 _ rfl
          have m1 := HP.out.m.cell 1 _ rfl
          have m2 := HP.out.m.cell 2 _ rfl
          have m3 := HP.out.m.cell 3 _ rfl
          have m4 := HP.out.m.cell 4 _ rfl
          have m5 := HP.out.m.cell 5 _ rfl
          have m6 := HP.out.m.cell 6 _ rfl
          have m7 := HP.out.m.cell 7 _ rfl
          have ml := HP.out.m.lt
          go_wp2_with fail
          with_reducible refine (HBC.out _ (by exact HIN.out)).mono ?_
          rintro e w2 ⟨vb, rfl, hob, hkb⟩
          have HP2 := Lib.hid (HP.out.keep hkb)
          have HC2 := Lib.hid (HC.out.keeps hkb)
          have HX2 := Lib.hid (HX.out.low hkb.size (fun b _ h2 => hkb.block b h2))
          have HOB := Lib.hid hob
          have hRl : w.heap.size < bs := by omega
          clear hkb hob HP HC HX HIN HBC m0 m1 m2 m3 m4 m5 m6 m7 ml cc2
          cases hok : medlOk m
          · have HGO : Hid (goodP l = false) := Lib.hid (by rw [Bool.eq_false_iff, ne_eq, HYES2.out]; rw [hok]; rintro ⟨h, -⟩; cases h)
            rw [medlErr_70 hok]
            have z0 := HP2.out.z.cell 0 _ rfl
            have z1 := HP2.out.z.cell 1 _ rfl
            have z2 := HP2.out.z.cell 2 _ rfl
            have z3 := HP2.out.z.cell 3 _ rfl
            have z4 := HP2.out.z.cell 4 _ rfl
            have z5 := HP2.out.z.cell 5 _ rfl
            have z6 := HP2.out.z.cell 6 _ rfl
            have z7 := HP2.out.z.cell 7 _ rfl
            have zl := HP2.out.z.lt
            have zf := HP2.out.z.frozen
            go_wp2_with fail
            refine bodyPost_ret (v := .tuple #[zeroM.val, .int .i64 71]) (by simp [results, Try.results52, go_sem, zeroM, *]) rfl (parse_no HGO.out rfl ?_)
            iterate 8 with_reducible refine Keeps.setCell ?_ (by simp) _
            exact HP2.out.keeps
          · have hres : bytesRes m = medlBytes m := by unfold bytesRes; rw [hok]; rfl
            rw [hres] at HOB
            obtain ⟨ab, cb, hvb, -, -, hrow⟩ := HOB.out.shape
            rw [u8s_len] at hvb hrow
            subst hvb
            have st1 := Row.str (cap := cb) hrow.row8
            have st2 := Row.str (cap := cap) (hr.keeps HP2.out.keeps).row8
            have hs2 : ((strOf (medlBytes m)).toList == (strOf l).toList) = decide (medlBytes m = l) := by
              rw [Bool.eq_iff_iff, beq_iff_eq, decide_eq_true_eq]
              exact ⟨fun h => strOf_inj' (medlBytes_lt (medlOk_fit hok)) hb (by rw [strOf_list, strOf_list] at h; exact h), fun h => by rw [h]⟩
            rw [medlErr_yes hok]
            have HOK := Lib.hid hok
            clear hres hrow HOB hok
            by_cases heq : medlBytes m = l
            · rw [decide_eq_true heq] at hs2
              have HGO : Hid (goodP l = true) := Lib.hid (HYES2.out.2 ⟨HOK.out, heq⟩)
              clear heq HYES2
              have z0 := HP2.out.z.cell 0 _ rfl
              have z1 := HP2.out.z.cell 1 _ rfl
              have z2 := HP2.out.z.cell 2 _ rfl
              have z3 := HP2.out.z.cell 3 _ rfl
              have z4 := HP2.out.z.cell 4 _ rfl
              have z5 := HP2.out.z.cell 5 _ rfl
              have z6 := HP2.out.z.cell 6 _ rfl
              have z7 := HP2.out.z.cell 7 _ rfl
              have zl := HP2.out.z.lt
              have zf := HP2.out.z.frozen
              have m0 := HP2.out.m.cell 0 _ rfl
              have m1 := HP2.out.m.cell 1 _ rfl
              have m2 := HP2.out.m.cell 2 _ rfl
              have m3 := HP2.out.m.cell 3 _ rfl
              have m4 := HP2.out.m.cell 4 _ rfl
              have m5 := HP2.out.m.cell 5 _ rfl
              have m6 := HP2.out.m.cell 6 _ rfl
              have m7 := HP2.out.m.cell 7 _ rfl
              have ml := HP2.out.m.lt
              have hRM : ¬ w.heap.size = Mb := by have := HP2.out.hM; omega
              go_wp2_with fail
              refine bodyPost_ret (v := .tuple #[.agg #[.int .i64 ((n : Nat) : Int), .int .i64 ((S : Nat) : Int), .int .i64 ((G : Nat) : Int), .int .i64 ((W : Nat) : Int), .int .i64 ((D : Nat) : Int), .int .i64 ((E : Nat) : Int), .slice va n vcap, .slice va2 j vcap2], .int .i64 0]) (by simp [results, Try.results52, go_sem, *]) rfl (parse_yes HGO.out (by rw [HMV.out]) (HINF.out _ ?_ ?_) HSA.out ?_)
              · iterate 8 refine Bools.blocks ?_ (fun z e hz => (KeepsBut.setCell _ w.heap.size _ _).block z hz (by have := (HCF.out z e).1; omega))
                exact HC2.out
              · iterate 8 refine OwnX.but ?_ (KeepsBut.setCell _ _ _ _) hRl
                exact HX2.out
              · iterate 8 with_reducible refine Keeps.setCell ?_ (by simp) _
                exact HP2.out.keeps
            · rw [decide_eq_false heq] at hs2
              have HGO : Hid (goodP l = false) := Lib.hid (by rw [Bool.eq_false_iff, ne_eq, HYES2.out]; exact fun h => heq h.2)
              clear heq HYES2
              have z0 := HP2.out.z.cell 0 _ rfl
              have z1 := HP2.out.z.cell 1 _ rfl
              have z2 := HP2.out.z.cell 2 _ rfl
              have z3 := HP2.out.z.cell 3 _ rfl
              have z4 := HP2.out.z.cell 4 _ rfl
              have z5 := HP2.out.z.cell 5 _ rfl
              have z6 := HP2.out.z.cell 6 _ rfl
              have z7 := HP2.out.z.cell 7 _ rfl
              have zl := HP2.out.z.lt
              have zf := HP2.out.z.frozen
              go_wp2_with fail
              refine bodyPost_ret (v := .tuple #[zeroM.val, .int .i64 71]) (by simp [results, Try.results52, go_sem, zeroM, *]) rfl (parse_no HGO.out rfl ?_)
              iterate 8 with_reducible refine Keeps.setCell ?_ (by simp) _
              exact HP2.out.keeps
end Go.Proofs.Ytmjodcackmjllaa
