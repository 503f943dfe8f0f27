/- The writer's all. -/
import Derived.Test.YtmjodcackmjllaaQ2
namespace Go.Proofs.Ytmjodcackmjllaa
open Go.RowKit
set_option linter.unusedVariables false
set_option linter.unusedSimpArgs false
def ones (zs : List Int) (k : Nat) : List Nat := (zs.take k).map fun z => (z % 256).toNat
theorem ones_len (zs : List Int) (k : Nat) (h : k ≤ zs.length) : (ones zs k).length = k := by simp [ones, h]
theorem ones_succ (zs : List Int) (k : Nat) (h : k < zs.length) : ones zs (k + 1) = ones zs k ++ [(zs[k] % 256).toNat] := by
  unfold ones
  rw [List.take_add_one, List.getElem?_eq_getElem h, List.map_append]
  rfl
def fours (zs : List Nat) (k : Nat) : List Nat := (zs.take k).flatMap be4
theorem fours_len (zs : List Nat) (k : Nat) (h : k ≤ zs.length) : (fours zs k).length = 4 * k := by
  induction k with
  | zero => rfl
  | succ k ih =>
    have := ih (by omega)
    unfold fours at *
    rw [List.take_add_one, List.getElem?_eq_getElem (by omega), List.flatMap_append, List.length_append, this]
    simp [be4]; omega
theorem fours_succ (zs : List Nat) (k : Nat) (h : k < zs.length) : fours zs (k + 1) = fours zs k ++ be4 zs[k] := by
  unfold fours
  rw [List.take_add_one, List.getElem?_eq_getElem h, List.flatMap_append]
  simp
set_option maxRecDepth 100000 in
set_option maxHeartbeats 2000000 in
theorem all_one (base B : Nat) (v : Value) (l : List Nat) (z : Value) (zs : List Int) (w : World) (hw : Wr w base B v l) (hb : base ≤ w.heap.size) (hl : l.length + 4 * zs.length ≤ 100000) (hz : Ints w z zs) (hfar : ∀ a n c, z = .slice (some a) n c → 0 < n → a.block ≠ B ∧ v.ownBlock ≠ some a.block) :
    Calls Try.prog 86 #[.func (.func 87) #[.pointer (some ⟨B, 0, none⟩)] #[], z] w fun e w' => e = .returned (.tuple #[]) ∧ ∃ v', Wr w' base B v' (l ++ ones zs zs.length) ∧ GrB B w w' v v' := by
  obtain ⟨a, cap, rfl, hcap, hmax, hrow⟩ := hz.shape
  have HR := Lib.hid hrow
  have HW0 := Lib.hid hw
  have HFA := Lib.hid hfar
  have hlz : zs.length = zs.length := rfl
  rw [hlz] at hcap HR HFA ⊢
  clear hw hfar hz hrow
  go_enter Try.func86, Try.ntmps86
  go_wp2_with fail
  go_loopw [8] (fun i wr => ∃ (k : Nat) (v' : Value), k ≤ zs.length ∧ i = .int .i64 k ∧ Hid (Wr wr base B v' (l ++ ones zs k)) ∧ Hid (GrB B w wr v v')) (fun i _ => zs.length - (intOf i).toNat)
  case atStart => exact ⟨0, v, by omega, rfl, Lib.hid (by simpa [ones] using HW0.out), Lib.hid (GrB.refl B w v)⟩
  case round =>
    obtain ⟨k, v1, hk, rfl, HW, HG⟩ := hrel
    have hsz := HG.out.size
    by_cases hlt : k < zs.length
    · obtain ⟨b, off, rfl, hcell, hbl⟩ := HR.out.addr (by omega)
      have hf := HFA.out _ _ _ rfl (by omega)
      have hc := (World.cell?_of_block (a := ⟨b, off + k, none⟩) (HG.out.block b hbl hf.1 hf.2)).trans (hcell k hlt)
      have HS := Lib.hid (ones_succ zs k hlt)
      have hlen := ones_len zs k hk
      have hv : ((zs.map (Value.int .i64))[k]?) = some (.int .i64 zs[k]) := by simp [hlt]
      rw [hv] at hc
      obtain ⟨x, hx⟩ : ∃ x, x = zs[k] := ⟨_, rfl⟩
      skip
      rw [← hx] at hc HS
      clear hcell hv hx
      go_wp2_with fail
      with_reducible refine (one_any base B v1 _ x _ HW.out (by omega) (by rw [List.length_append, hlen]; omega)).mono ?_
      rintro e w2 ⟨rfl, v2, hw2, hg2⟩
      rw [List.append_assoc, ← HS.out] at hw2
      have HW2 := Lib.hid hw2
      have HG2 := Lib.hid (HG.out.trans hg2)
      clear hw2 hg2 HW HG HS
      go_wp2_with fail
      go_roundw
      case rel => exact ⟨k + 1, v2, by omega, by go_num, HW2, HG2⟩
      case measure => simp [intOf]; omega
    · obtain rfl : k = zs.length := by omega
      go_wp2_with fail
      go_end0
      exact ⟨rfl, v1, HW.out, HG.out⟩
set_option maxRecDepth 100000 in
set_option maxHeartbeats 2000000 in
theorem all_four (base B : Nat) (v : Value) (l : List Nat) (z : Value) (zs : List Nat) (w : World) (hw : Wr w base B v l) (hb : base ≤ w.heap.size) (hl : l.length + 4 * zs.length ≤ 100000) (hz : Ints w z (zs.map fun n : Nat => (n : Int))) (hfar : ∀ a n c, z = .slice (some a) n c → 0 < n → a.block ≠ B ∧ v.ownBlock ≠ some a.block) (hzb : ∀ n ∈ zs, n < 9223372036854775808) :
    Calls Try.prog 86 #[.func (.func 88) #[.pointer (some ⟨B, 0, none⟩)] #[], z] w fun e w' => e = .returned (.tuple #[]) ∧ ∃ v', Wr w' base B v' (l ++ fours zs zs.length) ∧ GrB B w w' v v' := by
  obtain ⟨a, cap, rfl, hcap, hmax, hrow⟩ := hz.shape
  have HR := Lib.hid hrow
  have HW0 := Lib.hid hw
  have HFA := Lib.hid hfar
  have hlz : (zs.map fun n : Nat => (n : Int)).length = zs.length := by rw [List.length_map]
  rw [hlz] at hcap HR HFA ⊢
  clear hw hfar hz hrow
  go_enter Try.func86, Try.ntmps86
  go_wp2_with fail
  go_loopw [8] (fun i wr => ∃ (k : Nat) (v' : Value), k ≤ zs.length ∧ i = .int .i64 k ∧ Hid (Wr wr base B v' (l ++ fours zs k)) ∧ Hid (GrB B w wr v v')) (fun i _ => zs.length - (intOf i).toNat)
  case atStart => exact ⟨0, v, by omega, rfl, Lib.hid (by simpa [fours] using HW0.out), Lib.hid (GrB.refl B w v)⟩
  case round =>
    obtain ⟨k, v1, hk, rfl, HW, HG⟩ := hrel
    have hsz := HG.out.size
    by_cases hlt : k < zs.length
    · obtain ⟨b, off, rfl, hcell, hbl⟩ := HR.out.addr (by omega)
      have hf := HFA.out _ _ _ rfl (by omega)
      have hc := (World.cell?_of_block (a := ⟨b, off + k, none⟩) (HG.out.block b hbl hf.1 hf.2)).trans (hcell k hlt)
      have HS := Lib.hid (fours_succ zs k hlt)
      have hlen := fours_len zs k hk
      have hv : (((zs.map fun n : Nat => (n : Int)).map (Value.int .i64))[k]?) = some (.int .i64 zs[k]) := by simp [hlt]
      rw [hv] at hc
      obtain ⟨x, hx⟩ : ∃ x, x = zs[k] := ⟨_, rfl⟩
      have hxb := hzb zs[k] (List.getElem_mem _); rw [← hx] at hxb
      rw [← hx] at hc HS
      clear hcell hv hx
      go_wp2_with fail
      with_reducible refine (four_any base B v1 _ x _ HW.out (by omega) (by rw [List.length_append, hlen]; omega) hxb).mono ?_
      rintro e w2 ⟨rfl, v2, hw2, hg2⟩
      rw [List.append_assoc, ← HS.out] at hw2
      have HW2 := Lib.hid hw2
      have HG2 := Lib.hid (HG.out.trans hg2)
      clear hw2 hg2 HW HG HS
      go_wp2_with fail
      go_roundw
      case rel => exact ⟨k + 1, v2, by omega, by go_num, HW2, HG2⟩
      case measure => simp [intOf]; omega
    · obtain rfl : k = zs.length := by omega
      go_wp2_with fail
      go_end0
      exact ⟨rfl, v1, HW.out, HG.out⟩
end Go.Proofs.Ytmjodcackmjllaa
