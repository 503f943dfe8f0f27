/- The walks of package crc, 3: Sum. -/
import Derived.Test.YtmjodcackmjllaaW7
import Derived.Test.YtmjodcackmjllaaPlainBits2
namespace Go.Proofs.Ytmjodcackmjllaa
open Go.RowKit
set_option linter.unusedVariables false
set_option linter.unusedSimpArgs false

/-- a list of bits lies there -/
structure RBs (w : World) (a : Option Addr) (n cap : Nat) (xs : List RB) : Prop where
  len : xs.length = n
  hcap : n ≤ cap
  hmax : cap ≤ 9223372036854775807
  reach : n ≤ 100000000000000
  isIn : ∀ x ∈ xs, x.In w
  cell : ∀ i (h : i < xs.length), ∃ b off, a = some ⟨b, off, none⟩ ∧ w.cell? ⟨b, off + i * 2, none⟩ = some (.int .i64 (xs[i].n)) ∧ w.cell? ⟨b, off + i * 2 + 1, none⟩ = some (.slice xs[i].a xs[i].len xs[i].cap)
theorem RBs.keeps {w w' : World} {a : Option Addr} {n cap : Nat} {xs : List RB} (h : RBs w a n cap xs) (hk : Keeps w w') : RBs w' a n cap xs :=
  ⟨h.len, h.hcap, h.hmax, h.reach, fun x hx => (h.isIn x hx).keeps hk, fun i hi => by
    obtain ⟨b, off, h1, h2, h3⟩ := h.cell i hi
    exact ⟨b, off, h1, hk.later h2, hk.later h3⟩⟩
theorem RBs.addr {w : World} {a : Option Addr} {n cap : Nat} {xs : List RB} (h : RBs w a n cap xs) (h0 : 0 < xs.length) : ∃ b off, a = some ⟨b, off, none⟩ ∧
    ∀ i (hi : i < xs.length), w.cell? ⟨b, off + i * 2, none⟩ = some (.int .i64 (xs[i].n)) ∧ w.cell? ⟨b, off + i * 2 + 1, none⟩ = some (.slice xs[i].a xs[i].len xs[i].cap) := by
  obtain ⟨b, off, hab, -, -⟩ := h.cell 0 h0
  refine ⟨b, off, hab, fun i hi => ?_⟩
  obtain ⟨b', off', hab', h1, h2⟩ := h.cell i hi
  rw [hab] at hab'
  simp only [Option.some.injEq, Addr.mk.injEq] at hab'
  obtain ⟨rfl, rfl, _⟩ := hab'
  exact ⟨h1, h2⟩

/-- the bits of a value that may be -/
def RB.bits (x : RB) : List Bool := unpack x.n.toNat x.l
theorem unpack_pack (bs : List Bool) : unpack bs.length (pack bs) = bs := by
  apply ext_getD (unpack_len _ _)
  intro i hi
  rw [unpack_len] at hi
  rw [unpack_getD, if_pos hi, bitAt_pack]
theorem RB.Is.bits {x : RB} {w : World} {bs : List Bool} (h : x.Is w bs) : x.bits = bs := by
  unfold RB.bits
  rw [h.n, h.l, Int.toNat_natCast, unpack_pack]
/-- the sum of the first k -/
def sumTo (xs : List RB) (k : Nat) : Nat := (xs.take k).foldl (fun r x => crcOver r x.bits) 0
theorem sumTo_lt (xs : List RB) (k : Nat) : sumTo xs k < 16777216 := by
  unfold sumTo
  generalize xs.take k = l
  have h : ∀ (l : List RB) (r : Nat), r < 16777216 → l.foldl (fun r x => crcOver r x.bits) r < 16777216 := by
    intro l
    induction l with
    | nil => intro r hr; exact hr
    | cons x l ih => intro r hr; exact ih _ (crcOver_lt _ _ hr)
  exact h l 0 (by decide)
theorem sumTo_succ (xs : List RB) (k : Nat) (h : k < xs.length) : sumTo xs (k + 1) = crcOver (sumTo xs k) xs[k].bits := by
  unfold sumTo
  rw [List.take_succ_eq_append_getElem h, List.foldl_append]
  rfl
/-- the answer of Sum -/
def sumRes (xs : List RB) : Nat × Int := if xs.all fun x => chk x.n x.l then (sumTo xs xs.length, 0) else (0, 10)
theorem sumRes_yes (xs : List RB) (h : ∀ i (hi : i < xs.length), chk xs[i].n xs[i].l = true) : sumRes xs = (sumTo xs xs.length, 0) := by
  unfold sumRes
  rw [if_pos]
  rw [List.all_eq_true]
  intro x hx
  obtain ⟨i, hi, rfl⟩ := List.getElem_of_mem hx
  exact h i hi
theorem sumRes_no (xs : List RB) (i : Nat) (hi : i < xs.length) (h : chk xs[i].n xs[i].l = false) : sumRes xs = (0, 10) := by
  unfold sumRes
  rw [if_neg]
  intro hh
  rw [List.all_eq_true] at hh
  have := hh _ (List.getElem_mem hi)
  rw [h] at this
  cases this

theorem tab_lit (i : Nat) (h : i < 16) : (#[.int .u32 (tabAt 0 : Nat), .int .u32 (tabAt 1 : Nat), .int .u32 (tabAt 2 : Nat), .int .u32 (tabAt 3 : Nat), .int .u32 (tabAt 4 : Nat), .int .u32 (tabAt 5 : Nat), .int .u32 (tabAt 6 : Nat), .int .u32 (tabAt 7 : Nat), .int .u32 (tabAt 8 : Nat), .int .u32 (tabAt 9 : Nat), .int .u32 (tabAt 10 : Nat), .int .u32 (tabAt 11 : Nat), .int .u32 (tabAt 12 : Nat), .int .u32 (tabAt 13 : Nat), .int .u32 (tabAt 14 : Nat), .int .u32 (tabAt 15 : Nat)] : Array Value)[i]? = some (.int .u32 (tabAt i : Nat)) := by
  match i, h with
  | 0, _ => rfl
  | 1, _ => rfl
  | 2, _ => rfl
  | 3, _ => rfl
  | 4, _ => rfl
  | 5, _ => rfl
  | 6, _ => rfl
  | 7, _ => rfl
  | 8, _ => rfl
  | 9, _ => rfl
  | 10, _ => rfl
  | 11, _ => rfl
  | 12, _ => rfl
  | 13, _ => rfl
  | 14, _ => rfl
  | 15, _ => rfl
  | n + 16, h => omega

set_option maxHeartbeats 1000000 in
set_option maxRecDepth 100000 in
theorem sum_any (a : Option Addr) (n cap : Nat) (xs : List RB) (w : World) (hx : RBs w a n cap xs) :
    Calls Try.prog 101 #[.slice a n cap] w fun e w' => e = .returned (.tuple #[.int .u32 (sumRes xs).1, .int .i64 (sumRes xs).2]) ∧ Keeps w w' := by
  have HX := Lib.hid hx
  have hlen := hx.len
  have hcap := hx.hcap
  have hmax := hx.hmax
  have hreach := hx.reach
  subst hlen
  clear hx
  go_enter Try.func101, Try.ntmps101
  go_wp2_with (go_at_call 107; refine (table_any _).mono ?_; rintro e w1 ⟨rfl, hk1⟩)
  have hk0 := Keeps.refl (w1.alloc (.cells #[.int .u32 (tabAt 0 : Nat), .int .u32 (tabAt 1 : Nat), .int .u32 (tabAt 2 : Nat), .int .u32 (tabAt 3 : Nat), .int .u32 (tabAt 4 : Nat), .int .u32 (tabAt 5 : Nat), .int .u32 (tabAt 6 : Nat), .int .u32 (tabAt 7 : Nat), .int .u32 (tabAt 8 : Nat), .int .u32 (tabAt 9 : Nat), .int .u32 (tabAt 10 : Nat), .int .u32 (tabAt 11 : Nat), .int .u32 (tabAt 12 : Nat), .int .u32 (tabAt 13 : Nat), .int .u32 (tabAt 14 : Nat), .int .u32 (tabAt 15 : Nat)] 130))
  have HT : Hid (TabAt (w1.alloc (.cells #[.int .u32 (tabAt 0 : Nat), .int .u32 (tabAt 1 : Nat), .int .u32 (tabAt 2 : Nat), .int .u32 (tabAt 3 : Nat), .int .u32 (tabAt 4 : Nat), .int .u32 (tabAt 5 : Nat), .int .u32 (tabAt 6 : Nat), .int .u32 (tabAt 7 : Nat), .int .u32 (tabAt 8 : Nat), .int .u32 (tabAt 9 : Nat), .int .u32 (tabAt 10 : Nat), .int .u32 (tabAt 11 : Nat), .int .u32 (tabAt 12 : Nat), .int .u32 (tabAt 13 : Nat), .int .u32 (tabAt 14 : Nat), .int .u32 (tabAt 15 : Nat)] 130)) w1.heap.size) := fun i hi => hk0.box i _ (tab_lit i hi)
  have HK : Hid (Keeps w (w1.alloc (.cells #[.int .u32 (tabAt 0 : Nat), .int .u32 (tabAt 1 : Nat), .int .u32 (tabAt 2 : Nat), .int .u32 (tabAt 3 : Nat), .int .u32 (tabAt 4 : Nat), .int .u32 (tabAt 5 : Nat), .int .u32 (tabAt 6 : Nat), .int .u32 (tabAt 7 : Nat), .int .u32 (tabAt 8 : Nat), .int .u32 (tabAt 9 : Nat), .int .u32 (tabAt 10 : Nat), .int .u32 (tabAt 11 : Nat), .int .u32 (tabAt 12 : Nat), .int .u32 (tabAt 13 : Nat), .int .u32 (tabAt 14 : Nat), .int .u32 (tabAt 15 : Nat)] 130))) := hk1.alloc _
  have hz := hk0.box_lt
  clear hk0 hk1
  go_loopw [5, 12] (fun rv i wr => ∃ k : Nat, k ≤ xs.length ∧ i = .int .i64 k ∧ rv = .int .u32 (sumTo xs k) ∧ Hid (∀ j (hj : j < xs.length), j < k → chk xs[j].n xs[j].l = true) ∧
      Hid (TabAt wr w1.heap.size) ∧ w1.heap.size < wr.heap.size ∧ Hid (Keeps w wr)) (fun _ i _ => xs.length - (intOf i).toNat)
  case atStart => exact ⟨0, by omega, rfl, rfl, fun j _ h => absurd h (by omega), HT, hz, HK⟩
  case round =>
    clear HT HK hz
    obtain ⟨k, hk, rfl, rfl, HC, HT, hz, HK⟩ := hrel
    by_cases hlt : k < xs.length
    · obtain ⟨b, off, rfl, hcell⟩ := HX.out.addr (by omega)
      obtain ⟨hc0, hc1⟩ := hcell k hlt
      replace hc0 := HK.out.later hc0
      replace hc1 := HK.out.later hc1
      have HS := Lib.hid (sumTo_succ xs k hlt)
      have HI := Lib.hid (HX.out.isIn _ (List.getElem_mem hlt))
      have HC2 := Lib.hid (sumRes_no xs k hlt)
      have HC3 : Hid (chk xs[k].n xs[k].l = true → ∀ j (hj : j < xs.length), j < k + 1 → chk xs[j].n xs[j].l = true) := by
        intro h j hj hjk
        by_cases hjk' : j = k
        · subst hjk'; exact h
        · exact HC.out j hj (by omega)
      clear hcell HC
      obtain ⟨x, hx⟩ : ∃ x, x = xs[k] := ⟨_, rfl⟩
      rw [← hx] at hc0 hc1 HS HI HC2 HC3
      clear hx
      have HB : Hid (x.bits = unpack x.n.toNat x.l) := rfl
      have hlen := HX.out.len
      obtain ⟨nn, aa, ll, cc, bl⟩ := x
      simp only at hc0 hc1
      have hr := sumTo_lt xs k
      cases hch : chk nn bl
      all_goals
        have HCH := Lib.hid hch
        clear hch
        go_wp2_with fail
      · with_reducible refine (check_no ⟨nn, aa, ll, cc, bl⟩ _ (by exact HI.out.keeps (HK.out.alloc _)) HCH.out).mono ?_
        rintro e w2 ⟨rfl, hk2⟩
        go_wp2_with fail
        go_ret2
        refine ⟨?_, HK.out.trans hk2.unbox⟩
        rw [HC2.out HCH.out]
        rfl
      · with_reducible refine (check_yes ⟨nn, aa, ll, cc, bl⟩ _ (by exact HI.out.keeps (HK.out.alloc _)) HCH.out).mono ?_
        rintro e w2 ⟨rfl, hk2⟩
        have hb0 := hk2.box 0 _ rfl
        have hb1 := hk2.box 1 _ rfl
        have hz2 := hk2.box_lt
        have HK2 := Lib.hid (HK.out.trans hk2.unbox)
        have HT2 : Hid (TabAt w2 w1.heap.size) := HT.out.keeps hk2.unbox
        clear hk2 hc0 hc1
        go_wp2_with fail
        with_reducible refine (remainder_any ⟨nn, aa, ll, cc, bl⟩ (unpack nn.toNat bl) (sumTo xs k) w1.heap.size _ (by exact (HI.out.keeps HK2.out).is HCH.out) HT2.out hr).mono ?_
        rintro e w3 ⟨rfl, hk3⟩
        have hz3 := hk3.size
        have HK3 := Lib.hid (HK2.out.trans hk3)
        have HT3 : Hid (TabAt w3 w1.heap.size) := HT2.out.keeps hk3
        clear hk3
        go_wp2_with fail
        go_roundw
        case rel => exact ⟨k + 1, by omega, by go_num, by rw [HS.out]; rfl, HC3.out HCH.out, HT3, by omega, HK3⟩
        case measure => simp [intOf]; omega
    · obtain rfl : k = xs.length := by omega
      go_wp2_with fail
      go_ret2
      refine ⟨?_, HK.out⟩
      rw [sumRes_yes xs fun i hi => HC.out i hi hi]
      rfl
end Go.Proofs.Ytmjodcackmjllaa
