/- Plain: what was put is got, the parts of a join, turned twice, digits read back. -/
import Derived.Test.YtkbdpdcandpfdaaJ1
import Derived.Test.YtkbdpdcandpfdaaW34
import Derived.Test.YtkbdpdcandpfdaaW21
import Derived.Test.YtkbdpdcandpfdaaW37
import Derived.Test.YtkbdpdcandpfdaaW39
namespace Go.Proofs.Ytkbdpdcandpfdaa
open Go.RowKit
set_option linter.unusedVariables false
set_option linter.unusedSimpArgs false
theorem part_front' (bs cs : List Bool) : part (bs ++ cs) 0 bs.length = bs := by simp [part]
theorem part_back' (bs cs : List Bool) : part (bs ++ cs) bs.length (bs ++ cs).length = cs := by simp [part]
/-- a number that could be put -/
theorem putRes_ok (x : RB) (v : Nat) (wv : Int) (h : (putRes x v wv).2 = 0) :
    chk x.n x.l = true ∧ ∃ wd : Nat, wv = wd ∧ wd ≤ 64 ∧ v < 2 ^ wd ∧ putRes x v wv = (x.bits ++ numBits v wd, 0) := by
  unfold putRes at h ⊢
  cases hc : chk x.n x.l
  · rw [hc] at h; simp at h
  rw [hc] at h
  simp only [if_true] at h ⊢
  cases ha : putArg v wv
  · rw [ha] at h; simp at h
  rw [ha] at h
  simp only [if_true] at h ⊢
  unfold ofRes at h ⊢
  simp only [putArg, Bool.and_eq_true, decide_eq_true_eq] at ha
  refine ⟨trivial, wv.toNat, by omega, by omega, ha.2.2, ?_⟩
  split
  · rfl
  · next hl => rw [if_neg hl] at h; simp at h
theorem getRes_put {y : RB} {w : World} {bs : List Bool} {v wd : Nat} (hy : y.Is w (bs ++ numBits v wd)) (h64 : wd ≤ 64) (hv : v < 2 ^ wd) : getRes y (bs.length : Nat) (wd : Nat) = (v, 0) := by
  unfold getRes
  rw [if_pos hy.chk, hy.bits, hy.n, if_pos]
  · simp only [Int.toNat_natCast]
    congr 1
    unfold getTo
    rw [List.drop_left, List.take_of_length_le (by rw [numBits_len]; omega)]
    exact valOf_numBits wd v hv
  · simp only [argOk, Bool.and_eq_true, decide_eq_true_eq, List.length_append, numBits_len]
    omega
theorem sliceRes_front {y : RB} {w : World} {bs cs : List Bool} (hy : y.Is w (bs ++ cs)) : sliceRes y 0 (bs.length : Nat) = (bs, 0) := by
  unfold sliceRes
  rw [if_pos hy.chk, hy.bits, hy.n, if_pos]
  · simp only [Int.toNat_natCast]
    rw [show (0 : Int).toNat = 0 from rfl, part_front']
  · simp only [partOk, Bool.and_eq_true, decide_eq_true_eq, List.length_append]
    omega
theorem sliceRes_back {y : RB} {w : World} {bs cs : List Bool} (hy : y.Is w (bs ++ cs)) : sliceRes y (bs.length : Nat) ((bs ++ cs).length : Nat) = (cs, 0) := by
  unfold sliceRes
  rw [if_pos hy.chk, hy.bits, hy.n, if_pos]
  · simp only [Int.toNat_natCast]
    rw [part_back']
  · simp only [partOk, Bool.and_eq_true, decide_eq_true_eq, List.length_append]
    omega
theorem sliceRes_back2 {y : RB} {w : World} {bs cs : List Bool} {fv tv : Int} (hy : y.Is w (bs ++ cs)) (hf : fv = bs.length) (ht : tv = (bs ++ cs).length) : sliceRes y fv tv = (cs, 0) := by
  subst hf ht; exact sliceRes_back hy
theorem bsame_yes (x y : RB) (bs : List Bool) (w : World) (hx : x.Is w bs) (hy : y.Is w bs) : Calls Try.prog 31 #[x.val, y.val] w fun e w' => e = .returned (.bool true) ∧ Keeps w w' := by
  have h := same_any x y w hx.isIn hy.isIn
  rw [sameRes_is hx hy, decide_eq_true (rfl : bs = bs)] at h
  exact h
theorem check_of (x : RB) (bs : List Bool) (w : World) (hx : x.Is w bs) : Calls Try.prog 37 #[x.val] w fun e w' => e = .returned (.int .i64 0) ∧ Keeps w w' := check_yes x w hx.isIn hx.chk
/-- two that could be joined -/
theorem joinRes_two (x y : RB) (h : (joinRes [x, y]).2 = 0) : chk x.n x.l = true ∧ chk y.n y.l = true ∧ joinRes [x, y] = (x.bits ++ y.bits, 0) := by
  have e : flatTo [x, y] [x, y].length = x.bits ++ y.bits := by simp [flatTo]
  unfold joinRes at h ⊢
  rw [e] at h ⊢
  cases hx : chk x.n x.l
  · rw [if_neg (by simp [hx])] at h; simp at h
  cases hy : chk y.n y.l
  · rw [if_neg (by simp [hy])] at h; simp at h
  have ha : ([x, y].all fun x => chk x.n x.l) = true := by simp [hx, hy]
  rw [if_pos ha] at h ⊢
  refine ⟨rfl, rfl, ?_⟩
  split
  · rfl
  · next hl => rw [if_neg hl] at h; simp at h
theorem cnt_app (bs cs : List Bool) : cnt (bs ++ cs) (bs ++ cs).length = cnt bs bs.length + cnt cs cs.length := by
  unfold cnt
  rw [List.take_length, List.take_length, List.take_length, List.filter_append, List.length_append]
/-- turned twice -/
theorem flip1_getD (bs : List Bool) (i : Int) (j : Nat) : (flip1 bs i)[j]? = (bs[j]?).map fun b => if j = i.toNat then !b else b := by
  unfold flip1
  rw [List.getElem?_set]
  by_cases h : i.toNat = j
  · subst h
    rw [if_pos rfl]
    by_cases hl : i.toNat < bs.length
    · simp [hl, List.getD_eq_getElem?_getD]
    · rw [if_neg hl, List.getElem?_eq_none (by omega)]; rfl
  · rw [if_neg h]
    have h' : ¬ j = i.toNat := fun e => h e.symm
    cases bs[j]? <;> simp [h']
theorem flip1_twice (bs : List Bool) (i : Int) : flip1 (flip1 bs i) i = bs := by
  apply List.ext_getElem?
  intro j
  rw [flip1_getD, flip1_getD]
  cases bs[j]? with
  | none => rfl
  | some b => simp only [Option.map_some]; split <;> simp
theorem flip1_comm (bs : List Bool) (i k : Int) : flip1 (flip1 bs i) k = flip1 (flip1 bs k) i := by
  apply List.ext_getElem?
  intro j
  rw [flip1_getD, flip1_getD, flip1_getD, flip1_getD]
  cases bs[j]? with
  | none => rfl
  | some b => simp only [Option.map_some]; split <;> split <;> rfl
theorem fold_comm : ∀ (zs : List Int) (bs : List Bool) (z : Int), flip1 (zs.foldl flip1 bs) z = zs.foldl flip1 (flip1 bs z)
  | [], _, _ => rfl
  | y :: zs, bs, z => by rw [List.foldl_cons, fold_comm zs, List.foldl_cons, flip1_comm]
theorem fold_twice : ∀ (zs : List Int) (bs : List Bool), zs.foldl flip1 (zs.foldl flip1 bs) = bs
  | [], _ => rfl
  | z :: zs, bs => by rw [List.foldl_cons, List.foldl_cons, fold_comm, flip1_twice, fold_twice zs]
theorem flipRes_ok (x : RB) (zs : List Int) (h : (flipRes x zs).2 = 0) : chk x.n x.l = true ∧ zs.all (inN x.bits.length) = true ∧ flipRes x zs = (flips x.bits zs zs.length, 0) := by
  unfold flipRes at h ⊢
  cases hc : chk x.n x.l
  · rw [hc] at h; simp at h
  rw [hc] at h
  simp only [if_true] at h ⊢
  unfold flipIs at h ⊢
  cases ha : zs.all (inN x.bits.length)
  · rw [ha] at h; simp at h
  · exact ⟨trivial, rfl, by rw [if_pos rfl]⟩
theorem flipRes_back {y : RB} {w : World} {bs : List Bool} {zs : List Int} (hy : y.Is w (flips bs zs zs.length)) (ha : zs.all (inN bs.length) = true) : flipRes y zs = (bs, 0) := by
  unfold flipRes
  rw [if_pos hy.chk, hy.bits]
  unfold flipIs
  rw [flips_len, if_pos ha]
  unfold flips
  rw [List.take_length, fold_twice]
/-- digits read back -/
theorem parse_digits (bs : List Bool) (h : bs.length ≤ 4096) : parseRes ⟨(digits bs).toArray⟩ = (bs, 0) := by
  unfold parseRes
  have hs : (⟨(digits bs).toArray⟩ : ByteArray).size = bs.length := by simp [ByteArray.size, digits]
  have ha : (⟨(digits bs).toArray⟩ : ByteArray).data.toList.all digitB = true := by
    rw [List.all_eq_true]
    intro c hc
    simp only [digits, List.mem_map] at hc
    obtain ⟨b, -, rfl⟩ := hc
    cases b <;> decide
  obtain ⟨h1, h2⟩ := parse_yes _ ha
  rw [if_pos (by rw [hs]; exact h), h1, h2]
  congr 1
  unfold textBits
  show (digits bs).map _ = bs
  unfold digits
  rw [List.map_map]
  conv => rhs; rw [← List.map_id bs]
  apply List.map_congr_left
  intro b _
  cases b <;> decide
end Go.Proofs.Ytkbdpdcandpfdaa
