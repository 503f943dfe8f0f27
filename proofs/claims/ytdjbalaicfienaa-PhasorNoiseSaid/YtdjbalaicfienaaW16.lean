/- Same, on both sides; and the part of bits, of the reference. -/
import Derived.Test.YtdjbalaicfienaaW15
import Derived.Laws.BytesArg
namespace Go.Proofs.Ytdjbalaicfienaa
open Go.RowKit
set_option linter.unusedVariables false
set_option linter.unusedSimpArgs false

set_option maxRecDepth 100000
/-- bytes as a string -/
def strOf (l : List Nat) : ByteArray := ⟨(l.map UInt8.ofNat).toArray⟩
theorem strOf_inj {l m : List Nat} (hl : ∀ v ∈ l, v < 256) (hm : ∀ v ∈ m, v < 256) (h : strOf l = strOf m) : l = m := by
  unfold strOf at h
  simp only [ByteArray.mk.injEq] at h
  have key : ∀ (k : List Nat), (∀ v ∈ k, v < 256) → (k.map UInt8.ofNat).map UInt8.toNat = k := by
    intro k hk
    rw [List.map_map]
    conv => rhs; rw [← List.map_id k]
    apply List.map_congr_left
    intro v hv
    have := hk v hv
    simp [Nat.mod_eq_of_lt this]
  rw [← key l hl, ← key m hm, List.toArray_inj h]
theorem strOf_list (l : List Nat) : (strOf l).toList = l.map UInt8.ofNat := ByteArray.toList_mk _
theorem strOf_inj' {l m : List Nat} (hl : ∀ v ∈ l, v < 256) (hm : ∀ v ∈ m, v < 256) (h : l.map UInt8.ofNat = m.map UInt8.ofNat) : l = m :=
  strOf_inj hl hm (by unfold strOf; rw [h])
theorem Row.str {w : World} {a : Option Addr} {len cap : Nat} {l : List Nat} (h : Row w .u8 a len l) :
    (convert 24 9 (.slice a len cap)).run Try.prog w = .ok (.string (strOf l)) w := by
  by_cases h0 : len = 0
  · subst h0
    have : l = [] := List.eq_nil_of_length_eq_zero h.1
    subst this
    cases a with
    | none => exact run_convert_bytes_nil w 24 5 Try.underlying24 Try.underlying5 0 cap 9 Try.underlying9
    | some x =>
      rw [run_convert_bytes_string w 24 9 5 _ 0 cap Try.underlying24 Try.underlying5 Try.underlying9, run_bytesToString w x 0 cap [] (by
        have := run_loadCells_list (P := Try.prog) w x [] (fun j v hj => by simp at hj)
        simpa using this)]
      rfl
  · obtain ⟨b, off, hab, -⟩ := h.2 0 (by omega)
    subst hab
    have hc : ∀ i, i < len → w.cell? ⟨b, off + i, none⟩ = some (.int .u8 ((l.map Int.ofNat).getD i 0)) := by
      intro i hi
      obtain ⟨b', off', hab', hc'⟩ := h.2 i hi
      simp only [Option.some.injEq, Addr.mk.injEq, and_true] at hab'
      obtain ⟨rfl, rfl⟩ := hab'
      rw [hc']
      have hl := h.1
      simp [List.getD_eq_getElem?_getD, List.getElem?_eq_getElem (show i < l.length by omega)]
    have := run_convert_bytes_arg w 24 5 Try.underlying24 Try.underlying5 b off len cap (l.map Int.ofNat) (by simp [h.1]) hc 9 Try.underlying9
    rw [this]
    congr 2
    unfold strOfNums strOf
    simp [List.map_map, Function.comp_def]

/-- the same number of bits and the same bytes -/
def sameRes (x y : RB) : Bool := decide (x.n = y.n) && decide (x.l = y.l)
theorem sameRes_is {x y : RB} {w w' : World} {bs cs : List Bool} (hx : x.Is w bs) (hy : y.Is w' cs) : sameRes x y = decide (bs = cs) := by
  unfold sameRes
  rw [hx.n, hy.n, hx.l, hy.l]
  by_cases h : bs = cs
  · subst h; simp
  · rw [decide_eq_false h]
    by_cases hn : bs.length = cs.length
    · have : ¬ pack bs = pack cs := fun hp => h (pack_inj hn hp)
      simp [this]
    · simp [show ¬ ((bs.length : Int) = cs.length) by omega]
theorem sameRes_self (x : RB) : sameRes x x = true := by simp [sameRes]

set_option maxHeartbeats 400000 in
theorem rsame_any (x y : RB) (w : World) (hx : x.In w) (hy : y.In w) :
    Calls Try.prog 21 #[x.val, y.val] w fun e w' => e = .returned (.bool (sameRes x y)) ∧ Keeps w w' := by
  have hk := (Keeps.refl w).alloc (.cells #[.int .i64 x.n, .slice x.a x.len x.cap] 26) |>.alloc (.cells #[.int .i64 y.n, .slice y.a y.len y.cap] 26)
  have hc1 := Row.str (cap := x.cap) (hx.row.keeps hk)
  have hc2 := Row.str (cap := y.cap) (hy.row.keeps hk)
  have hb1 := hx.byte
  have hb2 := hy.byte
  clear hx hy
  obtain ⟨n, a, len, cap, l⟩ := x
  obtain ⟨m, b, len2, cap2, l2⟩ := y
  simp only at hc1 hc2 hb1 hb2
  show Calls Try.prog 21 #[.agg #[.int .i64 n, .slice a len cap], .agg #[.int .i64 m, .slice b len2 cap2]] w _
  have hs : ((strOf l).toList == (strOf l2).toList) = decide (l = l2) := by
    rw [Bool.eq_iff_iff, beq_iff_eq, decide_eq_true_eq]
    exact ⟨fun h => strOf_inj' hb1 hb2 (by rw [strOf_list, strOf_list] at h; exact h), fun h => by rw [h]⟩
  have HK := Lib.hid hk
  clear hb1 hb2 hk
  unfold sameRes
  by_cases hn : n = m
  · subst hn
    go_enter Try.func21, Try.ntmps21
    go_wp2_with fail
    go_ret
    exact ⟨ret_bool (by simp), HK.out⟩
  · have hd : (n == m) = false := by simpa using hn
    go_enter Try.func21, Try.ntmps21
    go_wp2_with fail
    go_ret
    exact ⟨ret_bool (by simp [hn]), HK.out⟩


theorem same_is (x y : RB) (bs cs : List Bool) (w : World) (hx : x.Is w bs) (hy : y.Is w cs) :
    Calls Try.prog 21 #[x.val, y.val] w fun e w' => e = .returned (.bool (decide (bs = cs))) ∧ Keeps w w' := by
  rw [← sameRes_is hx hy]
  exact rsame_any x y w hx.isIn hy.isIn
end Go.Proofs.Ytdjbalaicfienaa
