/-
  NumB: a number's bytes, the greatest first. No program.
  NumLess: bytes' number, and numbers' order by their bytes. No program.
  ToNum: bytes' number by the program's text and by the reference's. No program.
  NumW: the walks of fields.Number and of slices.Reverse over bytes.
  Fld: rows of fields as the walks meet them. No program.
  JoinW: the walk of fields.Join.
  FldOne: a row of one field; what gives bytes and an error.
  ToNumW: the walks of fields.ToNumber and of the reference's.
-/
import Derived.Test.YtjklcbdlfmmllaaGreatDoorYA
import Derived.WalkLawsBesides
import Derived.Shelf.SlicesE.Reverse
import Derived.Ground.SlgnProg
import Derived.Lib.OwnBridge
import Derived.Outline
namespace Go.Proofs.YtjklcbdlfmmllaaGreatDoor
open Go.RowKit

def numB (n : Nat) : List UInt8 := if _h : n = 0 then [] else numB (n / 256) ++ [UInt8.ofNat n]
termination_by n
decreasing_by omega
theorem numB_zero : numB 0 = [] := by rw [numB]; simp
theorem numB_pos {n : Nat} (h : n ≠ 0) : numB n = numB (n / 256) ++ [UInt8.ofNat n] := by
  conv => lhs; rw [numB]
  rw [dif_neg h]
theorem numB_len {n : Nat} : ∀ (k : Nat), n < 256 ^ k → (numB n).length ≤ k := by
  induction n using Nat.strongRecOn with
  | ind n ih =>
    intro k hk
    by_cases h0 : n = 0
    · rw [h0, numB_zero]; exact Nat.zero_le _
    · cases k with
      | zero => simp at hk; exact absurd hk h0
      | succ k =>
        rw [numB_pos h0, List.length_append]
        have := ih (n / 256) (by omega) k (by rw [Nat.pow_succ] at hk; exact Nat.div_lt_of_lt_mul (by omega))
        simpa using this
theorem byte_wrap (n : Nat) : (UInt8.ofNat n).toNat = n % 256 := by rw [UInt8.toNat_ofNat']
/-- k swaps from both ends -/
structure Swapped (l : List UInt8) (k : Nat) (l' : List UInt8) : Prop where
  len : l'.length = l.length
  at_ : ∀ i, i < l.length → l'[i]? = if i < k ∨ l.length ≤ i + k then l[l.length - 1 - i]? else l[i]?
theorem Swapped.start (l : List UInt8) : Swapped l 0 l := ⟨rfl, fun i hi => by rw [if_neg (by omega)]⟩
theorem Swapped.step {l l' : List UInt8} {k : Nat} (h : Swapped l k l') (hk : 2 * k + 1 < l.length) (hi : k < l'.length) (hj : l.length - 1 - k < l'.length) :
    Swapped l (k + 1) ((l'.set k l'[l.length - 1 - k]).set (l.length - 1 - k) l'[k]) := by
  refine ⟨by simp [h.len], fun i hil => ?_⟩
  have e1 := h.at_ k (by omega)
  have e2 := h.at_ (l.length - 1 - k) (by omega)
  rw [if_neg (by omega), List.getElem?_eq_getElem hi] at e1
  rw [if_neg (by omega), List.getElem?_eq_getElem hj] at e2
  by_cases h1 : i = l.length - 1 - k
  · subst h1
    rw [List.getElem?_set_self (by simp; omega), if_pos (by omega), e1]
    congr 1; omega
  · rw [List.getElem?_set_ne (by omega)]
    by_cases h2 : i = k
    · subst h2
      rw [List.getElem?_set_self (by omega), if_pos (by omega), e2]
    · rw [List.getElem?_set_ne (by omega), h.at_ i hil]
      by_cases h3 : i < k ∨ l.length ≤ i + k
      · rw [if_pos h3, if_pos (by omega)]
      · rw [if_neg h3, if_neg (by omega)]
theorem Swapped.done {l l' : List UInt8} {k : Nat} (h : Swapped l k l') (hk : l.length ≤ 2 * k + 1) : l' = l.reverse := by
  apply List.ext_getElem?
  intro i
  by_cases hi : i < l.length
  · rw [h.at_ i hi, List.getElem?_reverse hi]
    by_cases h3 : i < k ∨ l.length ≤ i + k
    · rw [if_pos h3]
    · rw [if_neg h3]; congr 1; omega
  · rw [List.getElem?_eq_none (by rw [h.len]; omega), List.getElem?_eq_none (by simp; omega)]
end Go.Proofs.YtjklcbdlfmmllaaGreatDoor

namespace Go.Proofs.YtjklcbdlfmmllaaGreatDoor
open Go.RowKit

/-- bytes' number, the greatest byte first -/
def valB (l : List UInt8) : Nat := l.foldl (fun u c => 256 * u + c.toNat) 0
theorem valB_from (l : List UInt8) (u : Nat) : l.foldl (fun u c => 256 * u + c.toNat) u = u * 256 ^ l.length + valB l := by
  unfold valB
  induction l generalizing u with
  | nil => simp
  | cons c l ih =>
    rw [List.foldl_cons, List.foldl_cons, ih, ih (256 * 0 + c.toNat), List.length_cons, Nat.pow_succ]
    rw [Nat.add_mul, Nat.mul_zero, Nat.zero_add]
    rw [Nat.mul_comm 256 u, Nat.mul_assoc, Nat.mul_comm 256, Nat.add_assoc]
theorem valB_cons (c : UInt8) (l : List UInt8) : valB (c :: l) = c.toNat * 256 ^ l.length + valB l := by
  have := valB_from l c.toNat
  unfold valB
  rw [List.foldl_cons, Nat.mul_zero, Nat.zero_add]
  exact this
theorem valB_app (l : List UInt8) (c : UInt8) : valB (l ++ [c]) = 256 * valB l + c.toNat := by
  unfold valB; rw [List.foldl_append]; rfl
theorem valB_nil : valB [] = 0 := rfl
theorem valB_lt (l : List UInt8) : valB l < 256 ^ l.length := by
  induction l with
  | nil => decide
  | cons c l ih =>
    rw [valB_cons, List.length_cons, Nat.pow_succ]
    have h := c.toNat_lt
    have : c.toNat * 256 ^ l.length + 256 ^ l.length ≤ 256 * 256 ^ l.length := by
      rw [← Nat.succ_mul]; exact Nat.mul_le_mul_right _ h
    omega
theorem valB_take (l : List UInt8) (k : Nat) (h : k < l.length) : valB (l.take (k + 1)) = 256 * valB (l.take k) + l[k].toNat := by
  rw [List.take_succ_eq_append_getElem h, valB_app]
theorem valB_numB (n : Nat) : valB (numB n) = n := by
  induction n using Nat.strongRecOn with
  | ind n ih =>
    by_cases h0 : n = 0
    · rw [h0, numB_zero]; rfl
    · rw [numB_pos h0, valB_app, ih (n / 256) (by omega), byte_wrap]; omega
theorem numB_inj {a b : Nat} (h : numB a = numB b) : a = b := by
  have := congrArg valB h
  rwa [valB_numB, valB_numB] at this
theorem head_app (k m : List UInt8) (h : k ≠ []) : (k ++ m).head? = k.head? := by
  cases k with
  | nil => exact absurd rfl h
  | cons c k => rfl
/-- no nought at the head -/
theorem numB_head (n : Nat) : (numB n).head? ≠ some 0 := by
  induction n using Nat.strongRecOn with
  | ind n ih =>
    by_cases h0 : n = 0
    · rw [h0, numB_zero]; simp
    · rw [numB_pos h0]
      by_cases h1 : n / 256 = 0
      · rw [h1, numB_zero]
        intro h
        simp only [List.nil_append, List.head?_cons, Option.some.injEq] at h
        have := congrArg UInt8.toNat h
        rw [byte_wrap] at this
        have : n % 256 = 0 := this
        omega
      · have := ih (n / 256) (by omega)
        have hne : numB (n / 256) ≠ [] := by rw [numB_pos h1]; simp
        rw [head_app _ _ hne]
        exact this
/-- bytes without a nought at the head are their number's -/
theorem numB_valB (l : List UInt8) (h : l.head? ≠ some 0) : numB (valB l) = l := by
  have gen : ∀ (m : Nat) (l : List UInt8), l.length = m → l.head? ≠ some 0 → numB (valB l) = l := by
    intro m
    induction m with
    | zero => intro l hl _; rw [List.eq_nil_of_length_eq_zero hl, valB_nil, numB_zero]
    | succ m ih =>
      intro l hl hh
      have hne : l ≠ [] := by intro e; subst e; simp at hl
      obtain ⟨k, c, rfl⟩ : ∃ k c, l = k ++ [c] := ⟨l.dropLast, l.getLast hne, (List.dropLast_concat_getLast hne).symm⟩
      have hk : k.length = m := by simpa using hl
      have hc := c.toNat_lt
      have hd : (256 * valB k + c.toNat) / 256 = valB k := by omega
      have hb : UInt8.ofNat (256 * valB k + c.toNat) = c := by
        apply UInt8.toNat_inj.1
        rw [byte_wrap]; omega
      rw [valB_app]
      by_cases hk0 : k = []
      · subst hk0
        have hc0 : c.toNat ≠ 0 := by
          intro e
          apply hh
          simp only [List.nil_append, List.head?_cons, Option.some.injEq]
          exact UInt8.toNat_inj.1 e
        rw [numB_pos (by rw [valB_nil]; omega), hd, hb, valB_nil, numB_zero]
      · have hkh : k.head? ≠ some 0 := by rwa [head_app _ _ hk0] at hh
        have hkk := ih k hk hkh
        have hv : valB k ≠ 0 := by
          intro e; rw [e, numB_zero] at hkk; exact hk0 hkk.symm
        rw [numB_pos (by omega), hd, hb, hkk]
  exact gen _ l rfl h

theorem valB_big (c : UInt8) (l : List UInt8) (h : c ≠ 0) : 256 ^ l.length ≤ valB (c :: l) := by
  rw [valB_cons]
  have : 1 ≤ c.toNat := by
    rcases Nat.eq_zero_or_pos c.toNat with h0 | h0
    · exact absurd (UInt8.toNat_inj.1 h0) h
    · exact h0
  have := Nat.mul_le_mul_right (256 ^ l.length) this
  omega
theorem numB_short {a b : Nat} (h : (numB a).length < (numB b).length) : a < b := by
  have h1 := valB_lt (numB a)
  rw [valB_numB] at h1
  have hb := numB_head b
  have hv := valB_numB b
  cases hl : numB b with
  | nil => rw [hl] at h; simp at h
  | cons c l =>
    rw [hl] at hb hv h
    have hc : c ≠ 0 := by intro e; subst e; simp at hb
    have h2 := valB_big c l hc
    rw [hv] at h2
    have h3 : 256 ^ (numB a).length ≤ 256 ^ l.length := Nat.pow_le_pow_right (by omega) (by simpa using Nat.le_of_lt_succ h)
    omega
theorem less_val : ∀ (x y : List UInt8), x.length = y.length → Op.bytesLess x y = decide (valB x < valB y)
  | [], [], _ => rfl
  | a :: x, b :: y, h => by
    have hl : x.length = y.length := by simpa using h
    rw [Op.bytesLess, less_val x y hl, valB_cons, valB_cons, hl]
    have hx := valB_lt x
    have hy := valB_lt y
    rw [hl] at hx
    generalize 256 ^ y.length = p at *
    rcases Nat.lt_trichotomy a.toNat b.toNat with hab | hab | hab
    · have e : (a < b) := UInt8.lt_iff_toNat_lt.2 hab
      have := Nat.mul_le_mul_right p (Nat.succ_le_of_lt hab)
      rw [Nat.succ_mul] at this
      simp only [e, decide_true, Bool.true_or, true_eq_decide_iff]
      omega
    · have e : a = b := UInt8.toNat_inj.1 hab
      subst e
      have : ¬ a < a := by rw [UInt8.lt_iff_toNat_lt]; omega
      simp only [this, decide_false, Bool.false_or, beq_self_eq_true, Bool.true_and]
      rw [Bool.eq_iff_iff]; simp only [decide_eq_true_eq]; omega
    · have e : ¬ a < b := by rw [UInt8.lt_iff_toNat_lt]; omega
      have e2 : (a == b) = false := by rw [beq_eq_false_iff_ne]; intro e; subst e; omega
      have := Nat.mul_le_mul_right p (Nat.succ_le_of_lt hab)
      rw [Nat.succ_mul] at this
      simp only [e, decide_false, e2, Bool.false_and, Bool.or_self, false_eq_decide_iff]
      omega
  | [], _ :: _, h => by simp at h
  | _ :: _, [], h => by simp at h

/-- THE ORDER OF NUMBERS BY THEIR BYTES -/
theorem numB_less (a b : Nat) : (decide ((numB a).length < (numB b).length) || ((numB a).length == (numB b).length && Op.bytesLess (numB a) (numB b))) = decide (a < b) := by
  rcases Nat.lt_trichotomy (numB a).length (numB b).length with h | h | h
  · have := numB_short h
    simp [h, this]
  · rw [less_val _ _ h, valB_numB, valB_numB]
    simp [h]
  · have := numB_short h
    have h1 : ¬ (numB a).length < (numB b).length := by omega
    have h2 : ¬ (numB a).length = (numB b).length := by omega
    have h3 : ¬ a < b := by omega
    simp [h1, h2, h3]
theorem numB_same (a b : Nat) : (numB a == numB b) = decide (a = b) := by
  rw [Bool.eq_iff_iff]; simp only [beq_iff_eq, decide_eq_true_eq]
  exact ⟨numB_inj, fun h => by rw [h]⟩
end Go.Proofs.YtjklcbdlfmmllaaGreatDoor

namespace Go.Proofs.YtjklcbdlfmmllaaGreatDoor
open Go.RowKit

def toNumE (l : List UInt8) : Nat := if l.head? = some 0 then 4 else if 8 < l.length ∨ (l.length = 8 ∧ 9223372036854775807 < valB l) then 1 else 0
def toNumF (l : List UInt8) : Nat := if toNumE l = 0 then valB l else 0
theorem valB_8 (c : UInt8) (m : List UInt8) (h : m.length = 7) : 9223372036854775807 < valB (c :: m) ↔ 127 < c.toNat := by
  have h1 := valB_lt m
  rw [valB_cons, h] at *
  have h2 := c.toNat_lt
  omega
theorem valB_7 (l : List UInt8) (h : l.length ≤ 7) : valB l < 72057594037927936 := by
  have h1 := valB_lt l
  have : 256 ^ l.length ≤ 256 ^ 7 := Nat.pow_le_pow_right (by omega) h
  omega
theorem valB_8b (l : List UInt8) (h : l.length ≤ 8) : valB l < 18446744073709551616 := by
  have h1 := valB_lt l
  have : 256 ^ l.length ≤ 256 ^ 8 := Nat.pow_le_pow_right (by omega) h
  omega
theorem valB_pre (l : List UInt8) (h : l.length ≤ 8) (k : Nat) (hk : k < l.length) : valB (l.take k) < 72057594037927936 :=
  valB_7 _ (by rw [List.length_take]; omega)
theorem valB_mono (l : List UInt8) (k : Nat) (hk : k ≤ l.length) : valB (l.take k) ≤ valB l := by
  have e : l = l.take k ++ l.drop k := (List.take_append_drop _ _).symm
  have : valB l = valB (l.take k) * 256 ^ (l.drop k).length + valB (l.drop k) := by
    conv => lhs; rw [e]
    unfold valB; rw [List.foldl_append]; exact valB_from _ _
  rw [this]
  have := Nat.le_mul_of_pos_right (valB (l.take k)) (Nat.pow_pos (n := (l.drop k).length) (show 0 < 256 by omega))
  omega
theorem or_byte (n c : Nat) (hc : c < 256) (hn : n < 72057594037927936) (h : n * 256 + c < 9223372036854775808) : bits .or .i64 ((n : Int) * 256) (c : Int) = ((256 * n + c : Nat) : Int) := by
  have b1 : n * 256 < 18446744073709551616 := Nat.lt_of_le_of_lt (Nat.le_add_right _ c) (Nat.lt_trans h (by decide))
  have b2 : c < 18446744073709551616 := by omega
  have e1 : ∀ m : Nat, m < 18446744073709551616 → BitVec.ofInt 64 (m : Int) = BitVec.ofNat 64 m := by
    intro m hm
    apply BitVec.eq_of_toNat_eq
    rw [BitVec.ofInt_natCast]
  have e2 : ((n : Int) * 256) = ((n * 256 : Nat) : Int) := by omega
  have e3 : (n * 256) ||| c = n * 256 + c := by
    have := Nat.shiftLeft_add_eq_or_of_lt (i := 8) (b := c) (by omega) n
    rw [Nat.shiftLeft_eq] at this
    exact this.symm
  show IntKind.i64.wrap ((BitVec.ofInt 64 ((n : Int) * 256) ||| BitVec.ofInt 64 (c : Int)).toNat : Int) = _
  have e4 := e1 _ b1
  have e5 := e1 _ b2
  have e6 : (n * 256) % 2 ^ 64 = n * 256 := by omega
  have e7 : c % 2 ^ 64 = c := by omega
  rw [e2, e4, e5, BitVec.toNat_or, BitVec.toNat_ofNat, BitVec.toNat_ofNat, e6, e7, e3]
  rw [show ((n * 256 + c : Nat) : Int) = ((256 * n + c : Nat) : Int) by omega]
  rw [IntKind.wrap_i64]; omega
end Go.Proofs.YtjklcbdlfmmllaaGreatDoor

namespace Go.Proofs.YtjklcbdlfmmllaaGreatDoor
open Go.RowKit Go.Shelf Go.Lib Go.Sort
shelf_lay_g SlLaysE.n35 Slgn 35 at Tryz 47 as Tryz.rev



theorem reverse_any (W : World) (v : Value) (l : List UInt8) (w : World) (hl : l.length ≤ 1099511627776) (ho : w.ownsRow W.heap.size 5 1 v l.length (bvs l)) (hW : Below W.heap.size W w) :
    Calls Tryz.prog 47 #[v] w fun e w' => e = .returned (.tuple #[]) ∧ w'.ownsRow W.heap.size 5 1 v l.length (bvs l.reverse) ∧ Below W.heap.size W w' := by
  by_cases h0 : v = .slice none 0 0
  · subst h0
    have hn : l.length = 0 := by
      rcases ho.2 with ⟨_, h⟩ | ⟨g, cap, cur, hv, _⟩
      · exact h
      · cases hv
    have hl0 : l = [] := List.eq_nil_of_length_eq_zero hn
    subst hl0
    refine (AnyE.slices_Reverse_empty Tryz.rev none 0 w).mono ?_
    rintro e w' ⟨rfl, rfl⟩
    exact ⟨rfl, ho, hW⟩
  · obtain ⟨g, cap, rfl, hb, hg, hn, hm, hlen, hH⟩ := holds_of_ownsRow (enc := bv) (zs := l) ho h0
    refine (AnyE.slices_Reverse Tryz.rev bv (fun _ => rfl) g 0 cap l w hH (by omega)).mono ?_
    rintro e w' ⟨rfl, n, rfl⟩
    refine ⟨rfl, ?_, below_putRow hW hb⟩
    have := ownsRow_putRow (enc := bv) (q := n) (k := l.length) (ys := l.reverse) ho (by simp) (Nat.le_refl _)
    rw [List.take_of_length_le (by simp)] at this
    exact this
/-- the call gives a slice of bytes of its own and an error's number -/
def GivesB (w : World) (E : Nat → Addr) (l : List UInt8) (n : Nat) (e : Ending) (w' : World) : Prop :=
  ∃ v, e = .returned (.tuple #[v, errV E n]) ∧ w'.ownsRow w.heap.size 5 1 v l.length (bvs l) ∧ Below w.heap.size w w'
theorem shr8 (m : Nat) : ((m : Int) / 256) = ((m / 256 : Nat) : Int) := by omega
set_option maxRecDepth 20000 in
set_option maxHeartbeats 1000000 in
theorem number_any (x : Int) (w : World) (E : Nat → Addr) (hx : x ≤ 9223372036854775807) (he : ErrsOn [0] w E) :
    Calls Tryz.prog 20 #[.int .i64 x] w (GivesB w E (if x < 0 then [] else numB x.toNat) (if x < 0 then 1 else 0)) := by
  have HE := Lib.hid he
  clear he
  obtain ⟨i0, hi, hz0, hz1, hz2⟩ := info_parts byt8Info
  go_enter Tryz.func20, Tryz.ntmps20
  by_cases hneg : x < 0
  · have hd : decide (x < 0) = true := decide_eq_true hneg
    rw [if_pos hneg, if_pos hneg]
    clear hneg
    go_wp2_with fail
    refine wp_phi (fun w' => ErrsOn [0] w' E ∧ Below w.heap.size w w') [] [] (by kernel_rfl) (by kernel_rfl) ?_ ?_ ⟨HE.out.below ((Below.refl _ _).drew), (Below.refl _ _).drew⟩ ?_
    · rintro w1 w2 ⟨a1, a2⟩ hb
      exact ⟨a1.below hb, a2.trans (hb.mono a2.size)⟩
    · intro p hp; cases hp
    repeat (refine phi_pureK rfl rfl (fun K hK => ?_); apply Exists.intro; constructor; (rintro w' ⟨hI1, hI2⟩; have s1 := hI1.cell 0 rfl; simp only [errVar, List.getD_cons_zero] at s1; clear hI1 hI2; first | (go_simp; (try go_bits); (try go_simp); rfl) | go_simp); simp only [Act.put, List.setIfInBounds_toArray, List.set_cons_succ, List.set_cons_zero]; (try simp only [List.cons_append]); (try simp only [List.nil_append]); apply hK; clear hK K)
    refine phi_done ?_
    rintro w1 ⟨_, hbw⟩ _
    refine wpList_nil ?_
    go_wp2_with fail
    go_ret2
    exact ⟨_, rfl, ⟨rfl, .inl ⟨rfl, rfl⟩⟩, hbw⟩
  · obtain ⟨n, rfl⟩ : ∃ n : Nat, x = (n : Int) := ⟨x.toNat, by omega⟩
    rw [if_neg hneg, if_neg hneg, show ((n : Int)).toNat = n by omega]
    have hd : decide ((n : Int) < 0) = false := decide_eq_false hneg
    have HLEN := Lib.hid (numB_len (n := n) 8 (by omega))
    clear hneg
    go_wp2_with fail
    go_loopw [0, 4] (fun i v wr => ∃ (m : Nat) (o : List UInt8), m ≤ n ∧ i = .int .i64 m ∧ numB n = numB m ++ o.reverse ∧ wr.ownsRow w.heap.size 5 1 v o.length (bvs o) ∧ Below w.heap.size w wr) (fun i _ _ => (RowKit.intOf i).toNat)
    case atStart => exact ⟨n, [], by omega, rfl, by simp, ⟨rfl, .inl ⟨rfl, rfl⟩⟩, Below.refl _ _⟩
    case round =>
      obtain ⟨m, o, hm, rfl, hnum, hown, hbw⟩ := hrel
      have hlen : o.length ≤ 8 := by
        have := congrArg List.length hnum
        rw [List.length_append, List.length_reverse] at this
        have := HLEN.out
        omega
      have HN := Lib.hid hnum
      have hwr := hbw.size
      clear hnum
      by_cases h0 : 0 < m
      · have d0 : decide ((0 : Int) < (m : Int)) = true := decide_eq_true (by omega)
        have d0' : decide (0 < m) = true := decide_eq_true h0
        have hown' := fun o => owns_below hown (below_alloc1 wr o)
        have hmb : m ≤ 9223372036854775807 := by omega
        go_wp2_with (at_builtin; refine wpList_app (.tmp 12) (.tmp 15) 29 rfl rfl w.heap.size 5 i0 (.int .u8 0) 1 1 Tryz.underlying29 hi hz0 hz1 hz2 rfl (by decide) _ _ _ rfl (hown' _) _ _ _ (bvs [UInt8.ofNat m]) rfl ?c0 ?cr bvs_one ?c1 ?c2 ?cb ?_)
        case c0 => rfl
        case cr =>
          have := rd_new wr #[.int .u8 ((m : Int) % 256)] 5 (0, 0)
          have hb : bvs [UInt8.ofNat m] = [.int .u8 ((m : Int) % 256)] := by
            simp only [bvs, List.map_cons, List.map_nil, bv, byte_wrap]; simp
          rw [hb]; exact this
        case c1 => unfold maxLen; omega
        case c2 => omega
        case cb => have := (below_alloc1 wr (.cells #[.int .u8 ((m : Int) % 256)] 5 (0, 0))).size; omega
        intro v' w' ho hg
        have hbw0 : Below w.heap.size w (wr.alloc (.cells #[.int .u8 ((m : Int) % 256)] 5 (0, 0))) := below_alloc hbw _
        have hbw' := hbw0.grown hg hbw0.size (fun j hj => (hown.lt j hj).1)
        have HP := Lib.hid (numB_pos (show m ≠ 0 by omega))
        clear hown hown' hg
        go_wp2_with fail
        go_roundw
        case rel => exact ⟨m / 256, o ++ [UInt8.ofNat m], by omega, by go_num, by rw [HN.out, HP.out, List.reverse_append]; simp, by rw [List.length_append, bvs_app]; exact ho, hbw'⟩
        case measure => simp [RowKit.intOf]; omega
      · obtain rfl : m = 0 := by omega
        clear h0
        have HR := Lib.hid (show numB n = o.reverse by rw [HN.out, numB_zero, List.nil_append])
        have d0 : decide ((0 : Int) < ((0 : Nat) : Int)) = false := by decide
        go_wp2_with fail
        refine (reverse_any w _ o wr (by omega) hown hbw).mono ?_
        rintro e w5 ⟨rfl, ho5, hb5⟩
        go_wp2_with fail
        go_ret2
        exact ⟨_, rfl, by rw [HR.out, List.length_reverse]; exact ho5, hb5⟩
/-- the same, its two sides under names -/
def numR (x : Int) : List UInt8 := if x < 0 then [] else numB x.toNat
def numE (x : Int) : Nat := if x < 0 then 1 else 0
theorem number_r (x : Int) (w : World) (E : Nat → Addr) (hx : x ≤ 9223372036854775807) (he : ErrsOn [0] w E) :
    Calls Tryz.prog 20 #[.int .i64 x] w (GivesB w E (numR x) (numE x)) := number_any x w E hx he
theorem numR_neg {x : Int} (h : x < 0) : numR x = [] := by unfold numR; rw [if_pos h]
theorem numE_neg {x : Int} (h : x < 0) : numE x = 1 := by unfold numE; rw [if_pos h]
theorem numR_nat (n : Nat) : numR (n : Int) = numB n := by unfold numR; rw [if_neg (by omega)]; rfl
theorem numE_nat (n : Nat) : numE (n : Int) = 0 := by unfold numE; rw [if_neg (by omega)]
end Go.Proofs.YtjklcbdlfmmllaaGreatDoor

namespace Go.Proofs.YtjklcbdlfmmllaaGreatDoor
open Go.RowKit

/-- the cells of a row of fields whose data are the slices vs -/
def fcells : List (Int × List UInt8) → List Value → List Value
  | f :: fs, u :: us => .int .i64 f.1 :: u :: fcells fs us
  | _, _ => []
theorem fcells_get : ∀ (fs : List (Int × List UInt8)) (us : List Value) (i : Nat) (f : Int × List UInt8) (u : Value), fs[i]? = some f → us[i]? = some u →
    (fcells fs us)[2 * i]? = some (.int .i64 f.1) ∧ (fcells fs us)[2 * i + 1]? = some u
  | [], _, i, f, u, h, _ => by simp at h
  | _ :: _, [], i, f, u, _, h => by simp at h
  | g :: fs, x :: us, 0, f, u, h, h' => by
    simp only [List.getElem?_cons_zero, Option.some.injEq] at h h'
    subst h; subst h'
    exact ⟨rfl, rfl⟩
  | g :: fs, x :: us, i + 1, f, u, h, h' => by
    have := fcells_get fs us i f u (by simpa using h) (by simpa using h')
    rw [show 2 * (i + 1) = 2 * i + 1 + 1 by omega, show 2 * i + 1 + 1 + 1 = (2 * i + 1) + 1 + 1 by omega]
    simpa [fcells] using this
/-- THE SLICE VALUE v IS THE ROW fs OF FIELDS in w. -/
def FldL (w : World) (v : Value) (fs : List (Int × List UInt8)) : Prop :=
  ∃ p cap us, v = .slice p fs.length cap ∧ fs.length ≤ cap ∧ cap ≤ maxLen ∧ us.length = fs.length ∧ Rd w p (fcells fs us) ∧ ∀ (i : Nat) (f : Int × List UInt8), fs[i]? = some f → ∃ u, us[i]? = some u ∧ Byt w u f.2
theorem FldL.keep {w w' : World} {v : Value} {fs : List (Int × List UInt8)} (h : FldL w v fs) (hk : ∀ a v, w.cell? a = some v → w'.cell? a = some v) : FldL w' v fs := by
  obtain ⟨p, cap, us, rfl, h1, h2, h3, h4, h5⟩ := h
  exact ⟨p, cap, us, rfl, h1, h2, h3, h4.keep hk, fun i f hf => by obtain ⟨u, hu, hb⟩ := h5 i f hf; exact ⟨u, hu, hb.keep hk⟩⟩
/-- the cells of the field i -/
theorem fldL_cell {w : World} {p : Option Addr} {fs : List (Int × List UInt8)} {us : List Value} (h : Rd w p (fcells fs us)) (h5 : ∀ (i : Nat) (f : Int × List UInt8), fs[i]? = some f → ∃ u, us[i]? = some u ∧ Byt w u f.2) {i : Nat} (hi : i < fs.length) :
    ∃ b off q c, p = some ⟨b, off, none⟩ ∧ w.cell? ⟨b, off + i * 2, none⟩ = some (.int .i64 fs[i].1) ∧ w.cell? ⟨b, off + i * 2 + 1, none⟩ = some (.slice q fs[i].2.length c) ∧ Byt w (.slice q fs[i].2.length c) fs[i].2 := by
  obtain ⟨u, hu, hb⟩ := h5 i fs[i] (by simp [hi])
  obtain ⟨g1, g2⟩ := fcells_get fs us i fs[i] u (by simp [hi]) hu
  obtain ⟨b, off, hp, hc⟩ := h.has (by intro e; rw [e] at g1; simp at g1)
  have hb' := hb
  obtain ⟨q, c, rfl, _⟩ := hb'
  refine ⟨b, off, q, c, hp, ?_, ?_, hb⟩
  · rw [Nat.mul_comm i 2]; exact hc _ _ g1
  · rw [Nat.mul_comm i 2, Nat.add_assoc]; exact hc _ _ g2
/-- a field's bytes -/
def fieldB (f : Int × List UInt8) : List UInt8 := UInt8.ofNat (f.1 % 256).toNat :: UInt8.ofNat (f.2.length / 256) :: UInt8.ofNat f.2.length :: f.2
def joinL (fs : List (Int × List UInt8)) : List UInt8 := fs.flatMap fieldB
/-- is the field right behind the tag last? -/
def fieldOk (last : Int) (f : Int × List UInt8) : Bool := decide (last < f.1) && decide (f.1 ≤ 255) && decide (f.2.length ≤ 200)
def rowOk : Int → List (Int × List UInt8) → Bool
  | _, [] => true
  | last, f :: fs => fieldOk last f && rowOk f.1 fs
def rightRow (fs : List (Int × List UInt8)) : Bool := decide (fs.length ≤ 16) && rowOk 0 fs
def lastOf (last : Int) (fs : List (Int × List UInt8)) : Int := fs.foldl (fun _ f => f.1) last
theorem lastOf_app (last : Int) (fs : List (Int × List UInt8)) (f : Int × List UInt8) : lastOf last (fs ++ [f]) = f.1 := by simp [lastOf]
theorem rowOk_app (last : Int) (fs gs : List (Int × List UInt8)) : rowOk last (fs ++ gs) = (rowOk last fs && rowOk (lastOf last fs) gs) := by
  induction fs generalizing last with
  | nil => rfl
  | cons f fs ih => simp only [List.cons_append, rowOk, ih, Bool.and_assoc]; rfl
theorem rowOk_take (fs : List (Int × List UInt8)) (k : Nat) (hk : k < fs.length) : rowOk 0 (fs.take (k + 1)) = (rowOk 0 (fs.take k) && fieldOk (lastOf 0 (fs.take k)) fs[k]) := by
  rw [List.take_succ_eq_append_getElem hk, rowOk_app]
  simp [rowOk]
theorem lastOf_take (fs : List (Int × List UInt8)) (k : Nat) (hk : k < fs.length) : lastOf 0 (fs.take (k + 1)) = fs[k].1 := by
  rw [List.take_succ_eq_append_getElem hk, lastOf_app]
theorem rowOk_bad (fs : List (Int × List UInt8)) (k : Nat) (hk : k < fs.length) (h : fieldOk (lastOf 0 (fs.take k)) fs[k] = false) : rowOk 0 fs = false := by
  have e : fs = fs.take (k + 1) ++ fs.drop (k + 1) := (List.take_append_drop _ _).symm
  rw [e, rowOk_app, rowOk_take fs k hk, h]; simp
theorem joinL_take (fs : List (Int × List UInt8)) (k : Nat) (hk : k < fs.length) : joinL (fs.take (k + 1)) = joinL (fs.take k) ++ fieldB fs[k] := by
  unfold joinL; rw [List.take_succ_eq_append_getElem hk, List.flatMap_append]; simp
theorem joinL_len (fs : List (Int × List UInt8)) (last : Int) (h : rowOk last fs = true) : (joinL fs).length ≤ 203 * fs.length := by
  induction fs generalizing last with
  | nil => simp [joinL]
  | cons f fs ih =>
    simp only [rowOk, fieldOk, Bool.and_eq_true, decide_eq_true_eq] at h
    have h2 := ih f.1 h.2
    have e : joinL (f :: fs) = fieldB f ++ joinL fs := rfl
    rw [e, List.length_append, List.length_cons]
    have : (fieldB f).length = f.2.length + 3 := rfl
    omega
end Go.Proofs.YtjklcbdlfmmllaaGreatDoor

namespace Go.Proofs.YtjklcbdlfmmllaaGreatDoor
open Go.RowKit

def joinE (fs : List (Int × List UInt8)) : Nat := if rightRow fs then 0 else 4
def joinR (fs : List (Int × List UInt8)) : List UInt8 := if rightRow fs then joinL fs else []
/-- a cell of a younger block stays where an owned row grows -/
theorem grown_cell {w0 w w' : World} {base size n : Nat} {e : TypeId} {v x : Value} {xs : List Value} {b o : Nat} (hg : w.grownBy w' v.ownBlock) (ho : w0.ownsRow base e size v n xs) (hb : w0.heap.size ≤ b) (hc : w.cell? ⟨b, o, none⟩ = some x) :
    w'.cell? ⟨b, o, none⟩ = some x := by
  refine (World.cell?_of_block (hg.block b (cell_lt hc) ?_)).trans hc
  intro h
  have := (ho.lt b h.symm).2
  omega
theorem fieldB_head (tag : Int) (dat : List UInt8) (h0 : 0 ≤ tag) (h1 : tag ≤ 255) (h2 : dat.length ≤ 200) :
    bvs [UInt8.ofNat (tag % 256).toNat, UInt8.ofNat (dat.length / 256), UInt8.ofNat dat.length] = [.int .u8 tag, .int .u8 ((dat.length : Int) / 256), .int .u8 (dat.length : Int)] := by
  have a1 : (((tag % 256).toNat % 256 : Nat) : Int) = tag := by omega
  have a2 : ((dat.length / 256 % 256 : Nat) : Int) = (dat.length : Int) / 256 := by omega
  have a3 : ((dat.length % 256 : Nat) : Int) = (dat.length : Int) := by omega
  simp only [bvs, List.map_cons, List.map_nil, bv, byte_wrap]
  rw [a1, a2, a3]
theorem lastOf_nonneg (fs : List (Int × List UInt8)) (last : Int) (h : 0 ≤ last) (ho : rowOk last fs = true) : 0 ≤ lastOf last fs := by
  induction fs generalizing last with
  | nil => exact h
  | cons f fs ih =>
    simp only [rowOk, fieldOk, Bool.and_eq_true, decide_eq_true_eq] at ho
    exact ih f.1 (by omega) ho.2
theorem joinL_app (fs : List (Int × List UInt8)) (f : Int × List UInt8) : joinL (fs ++ [f]) = joinL fs ++ fieldB f := by
  unfold joinL; rw [List.flatMap_append]; simp
theorem join_err {fs : List (Int × List UInt8)} {w w' : World} {E : Nat → Addr} (h : rightRow fs = false) (hb : Below w.heap.size w w') :
    GivesB w E (joinR fs) (joinE fs) (.returned (.tuple #[.slice none 0 0, errAt (E 3)])) w' := by
  unfold joinR joinE
  rw [h]
  exact ⟨_, rfl, ⟨rfl, .inl ⟨rfl, rfl⟩⟩, hb⟩
theorem join_ok {fs : List (Int × List UInt8)} {w w' : World} {E : Nat → Addr} {v : Value} (h : rightRow fs = true) (ho : w'.ownsRow w.heap.size 5 1 v (joinL fs).length (bvs (joinL fs))) (hb : Below w.heap.size w w') :
    GivesB w E (joinR fs) (joinE fs) (.returned (.tuple #[v, .nilIface])) w' := by
  unfold joinR joinE
  rw [h]
  exact ⟨_, rfl, ho, hb⟩
set_option maxRecDepth 20000 in
set_option maxHeartbeats 1000000 in
theorem join_any (v : Value) (fs : List (Int × List UInt8)) (w : World) (E : Nat → Addr) (he : ErrsOn [3] w E) (hv : FldL w v fs) :
    Calls Tryz.prog 22 #[v] w (GivesB w E (joinR fs) (joinE fs)) := by
  have HE := Lib.hid he
  have e3 := he.cell 3 rfl
  simp only [errVar, List.getD_cons_zero, List.getD_cons_succ] at e3
  clear he
  obtain ⟨i0, hi, hz0, hz1, hz2⟩ := info_parts byt8Info
  obtain ⟨p, cap, us, rfl, h1, h2, h3, h4, h5⟩ := hv
  have H4 := Lib.hid h4
  have H5 := Lib.hid h5
  have H3 := Lib.hid h3
  clear h3 h4 h5
  unfold maxLen at h2
  by_cases h16 : fs.length ≤ 16
  · have d0 : decide (16 < (fs.length : Int)) = false := by simp; omega
    have d0' : decide (16 < fs.length) = false := by simp; omega
    go_enter Tryz.func22, Tryz.ntmps22
    go_wp2_with fail
    go_loopw [4, 5, 14] (fun o t i wr => ∃ k : Nat, k ≤ fs.length ∧ rowOk 0 (fs.take k) = true ∧ i = .int .i64 k ∧ t = .int .i64 (lastOf 0 (fs.take k)) ∧ wr.ownsRow w.heap.size 5 1 o (joinL (fs.take k)).length (bvs (joinL (fs.take k))) ∧ Below w.heap.size w wr) (fun _ _ i _ => fs.length - (intOf i).toNat)
    case atStart => exact ⟨0, by omega, rfl, rfl, rfl, ⟨rfl, .inl ⟨rfl, rfl⟩⟩, Below.refl _ _⟩
    case round =>
      obtain ⟨k, hk, hok, rfl, rfl, hown, hbw⟩ := hrel
      by_cases hlt : k < fs.length
      · obtain ⟨b, off, q, c, rfl, hc1, hc2, hby⟩ := fldL_cell H4.out H5.out hlt
        have g1 := Below.keeps hbw _ _ hc1
        have g2 := Below.keeps hbw _ _ hc2
        have hby' := hby.keep (Below.keeps hbw)
        have hstep := rowOk_take fs k hlt
        rw [hok, Bool.true_and] at hstep
        have hlast := lastOf_take fs k hlt
        have hjoin := joinL_take fs k hlt
        have HOK := Lib.hid hok
        have HSTEP := Lib.hid hstep
        have HLAST := Lib.hid hlast
        have HJOIN := Lib.hid hjoin
        have HBAD := Lib.hid (rowOk_bad fs k hlt)
        clear hok hstep hlast hjoin
        have e3' := fun o => keep_alloc wr o _ _ (Below.keeps hbw _ _ e3)
        unfold errAt at e3'
        have hjl := joinL_len (fs.take k) 0 HOK.out
        have hlk : (fs.take k).length ≤ k := List.length_take_le _ _
        have hl0 := lastOf_nonneg (fs.take k) 0 (Int.le_refl _) HOK.out
        generalize lastOf 0 (fs.take k) = last at *
        generalize hf : fs[k] = f at *
        clear hf
        obtain ⟨tag, dat⟩ := f
        simp only at hc1 hc2 hby g1 g2 hby'
        by_cases c1 : last < tag
        · by_cases c2 : tag ≤ 255
          · by_cases c3 : dat.length ≤ 200
            · have d1 : decide (tag ≤ last) = false := by simp; omega
              have d2 : decide (255 < tag) = false := by simp; omega
              have d3 : decide (200 < (dat.length : Int)) = false := by simp; omega
              have d4 : decide (200 < dat.length) = false := by simp; omega
              have hs1 := (below_alloc (below_alloc hbw (.cells #[.int .i64 tag, .slice q dat.length c] 54)) (.cells #[.int .u8 tag, .int .u8 ((dat.length : Int) / 256), .int .u8 (dat.length : Int)] 5)).size
              have hHead := Lib.hid (fieldB_head tag dat (by omega) c2 c3)
              have hown1 := owns_below hown (below_alloc1 wr (.cells #[.int .i64 tag, .slice q dat.length c] 54))
              have hown2 := owns_below hown1 (below_alloc1 _ (.cells #[.int .u8 tag, .int .u8 ((dat.length : Int) / 256), .int .u8 (dat.length : Int)] 5))
              go_wp2_with (at_builtin; refine wpList_app (.tmp 36) (.tmp 49) 29 rfl rfl w.heap.size 5 i0 (.int .u8 0) 1 1 Tryz.underlying29 hi hz0 hz1 hz2 rfl (by decide) _ _ _ rfl hown2 _ _ _ (bvs [UInt8.ofNat (tag % 256).toNat, UInt8.ofNat (dat.length / 256), UInt8.ofNat dat.length]) rfl ?a0 ?a1 bvs_one ?a2 ?a3 hs1 ?_)
              case a0 => rfl
              case a1 => rw [hHead.out]; exact rd_at _ #[_, _, _] _ _ _ (by simp)
              case a2 => unfold maxLen; omega
              case a3 => omega
              intro v1 w1 ho1 hg1
              have hb1 := (below_alloc (below_alloc hbw (.cells #[.int .i64 tag, .slice q dat.length c] 54)) (.cells #[.int .u8 tag, .int .u8 ((dat.length : Int) / 256), .int .u8 (dat.length : Int)] 5)).grown hg1 hs1 (fun j hj => (hown2.lt j hj).1)
              have g3 := grown_cell hg1 hown (Nat.le_refl _) (show (((wr.alloc (.cells #[.int .i64 tag, .slice q dat.length c] 54)).alloc (.cells #[.int .u8 tag, .int .u8 ((dat.length : Int) / 256), .int .u8 (dat.length : Int)] 5)).cell? ⟨wr.heap.size, 1, none⟩ = some (.slice q dat.length c)) by go_simp)
              clear hown hown1 hown2 hg1 e3' hHead g1 g2
              have hby1 := hby.keep (Below.keeps hb1)
              obtain ⟨p', c', hq, hq1, hq2, hR⟩ := hby1
              cases hq
              have HR := Lib.hid hR
              clear hR hby hby'
              have hs2 := hb1.size
              go_wp2_with (at_builtin; refine wpList_app (.tmp 51) (.tmp 53) 29 rfl rfl w.heap.size 5 i0 (.int .u8 0) 1 1 Tryz.underlying29 hi hz0 hz1 hz2 rfl (by decide) _ _ _ rfl ho1 _ _ _ (bvs dat) rfl ?d0 HR.out bvs_one ?d2 ?d3 hs2 ?_)
              case d0 => rw [bvs_len]; omega
              case d2 => unfold maxLen; simp; omega
              case d3 => simp; omega
              intro v2 w2 ho2 hg2
              have hb2 := hb1.grown hg2 hs2 (fun j hj => (ho1.lt j hj).1)
              clear ho1 hg2 g3
              have HOK1 := Lib.hid (show rowOk 0 (fs.take (k + 1)) = true by rw [HSTEP.out]; simp [fieldOk]; omega)
              have ho3 : w2.ownsRow w.heap.size 5 1 v2 (joinL (fs.take (k + 1))).length (bvs (joinL (fs.take (k + 1)))) := by
                rw [HJOIN.out]
                simpa [fieldB, bvs_app, bvs, Nat.add_assoc, Nat.add_comm, Nat.add_left_comm] using ho2
              clear ho2
              go_wp2_with fail
              go_roundw
              case rel => exact ⟨k + 1, by omega, HOK1.out, by go_num, by rw [HLAST.out], ho3, hb2⟩
              case measure => simp [intOf]; omega
            · have d1 : decide (tag ≤ last) = false := by simp; omega
              have d2 : decide (255 < tag) = false := by simp; omega
              have d3 : decide (200 < (dat.length : Int)) = true := by simp; omega
              have d4 : decide (200 < dat.length) = true := by simp; omega
              go_wp2_with fail
              go_quiet (fail)
              go_wp2_with fail
              go_ret2
              exact join_err (by unfold rightRow; rw [HBAD.out (by simp [fieldOk]; omega)]; simp) ((below_alloc hbw _).trans ((below_drewN _ _).mono (below_alloc hbw _).size))
          · have d1 : decide (tag ≤ last) = false := by simp; omega
            have d2 : decide (255 < tag) = true := by simp; omega
            go_wp2_with fail
            go_quiet (fail)
            go_wp2_with fail
            go_ret2
            exact join_err (by unfold rightRow; rw [HBAD.out (by simp [fieldOk]; omega)]; simp) ((below_alloc hbw _).trans ((below_drewN _ _).mono (below_alloc hbw _).size))
        · have d1 : decide (tag ≤ last) = true := by simp; omega
          go_wp2_with fail
          go_quiet (fail)
          go_wp2_with fail
          go_ret2
          exact join_err (by unfold rightRow; rw [HBAD.out (by simp [fieldOk]; omega)]; simp) ((below_alloc hbw _).trans ((below_drewN _ _).mono (below_alloc hbw _).size))
      · obtain rfl : k = fs.length := by omega
        rw [List.take_of_length_le (Nat.le_refl _)] at hok hown
        have HR := Lib.hid (show rightRow fs = true by unfold rightRow; simp [hok, h16])
        clear hok
        go_wp2_with fail
        go_ret2
        exact join_ok HR.out hown hbw
  · have d0 : decide (16 < (fs.length : Int)) = true := by simp; omega
    have d0' : decide (16 < fs.length) = true := by simp; omega
    have HR := Lib.hid (show rightRow fs = false by unfold rightRow; simp [h16])
    unfold errAt at e3
    go_enter Tryz.func22, Tryz.ntmps22
    go_wp2_with fail
    go_quiet (fail)
    go_wp2_with fail
    go_ret2
    exact join_err HR.out (below_drewN _ _)
end Go.Proofs.YtjklcbdlfmmllaaGreatDoor

namespace Go.Proofs.YtjklcbdlfmmllaaGreatDoor
open Go.RowKit

theorem fld_one (w : World) (n : Nat) (hn : n = w.heap.size) (p : Option Addr) (cap : Nat) (l : List UInt8) (tag : Int) (h : Byt w (.slice p l.length cap) l) :
    FldL (w.alloc (.cells #[.int .i64 tag, .slice p l.length cap] 54)) (.slice (some ⟨n, 0, none⟩) 1 1) [(tag, l)] := by
  subst hn
  refine ⟨_, 1, [.slice p l.length cap], rfl, Nat.le_refl _, by unfold maxLen; omega, rfl, rd_new w #[_, _] _ _, fun i f hf => ?_⟩
  cases i with
  | zero =>
    obtain rfl : (tag, l) = f := by simpa using hf
    exact ⟨_, rfl, h.keep (keep_alloc _ _)⟩
  | succ i => simp at hf
theorem gb_byt {w w' : World} {E : Nat → Addr} {l : List UInt8} {n : Nat} {e : Ending} (h : GivesB w E l n e w') : ∃ p cap, e = .returned (.tuple #[.slice p l.length cap, errV E n]) ∧ Byt w' (.slice p l.length cap) l ∧ Below w.heap.size w w' := by
  obtain ⟨v, rfl, ho, hb⟩ := h
  have hby := owns_byt ho
  have hby' := hby
  obtain ⟨p, cap, rfl, _⟩ := hby'
  exact ⟨p, cap, rfl, hby, hb⟩
theorem byt_pair (w : World) (x y : UInt8) : Byt (w.alloc (.cells #[.int .u8 (x.toNat : Int), .int .u8 (y.toNat : Int)] 5 (2, 3))) (.slice (some ⟨w.heap.size, 0, none⟩) 2 2) [x, y] :=
  ⟨_, _, rfl, by simp, by unfold maxLen; omega, rd_new w #[_, _] _ _⟩
/-- the call gives a row of bytes of its own -/
def GivesO (w : World) (l : List UInt8) (e : Ending) (w' : World) : Prop :=
  ∃ v, e = .returned v ∧ w'.ownsRow w.heap.size 5 1 v l.length (bvs l) ∧ Below w.heap.size w w'
theorem GivesO.byt {w w' : World} {l : List UInt8} {e : Ending} (h : GivesO w l e w') : ∃ v, e = .returned v ∧ Byt w' v l ∧ Below w.heap.size w w' := by
  obtain ⟨v, h1, h2, h3⟩ := h
  exact ⟨v, h1, owns_byt h2, h3⟩
end Go.Proofs.YtjklcbdlfmmllaaGreatDoor

namespace Go.Proofs.YtjklcbdlfmmllaaGreatDoor
open Go.RowKit

theorem ten_err {l : List UInt8} {w w' : World} {E : Nat → Addr} (n : Nat) (h : toNumE l = n + 1) (hb : Below w.heap.size w w') :
    (fun e w' => e = Ending.returned (.tuple #[.int .i64 (toNumF l : Int), errV E (toNumE l)]) ∧ Below w.heap.size w w') (.returned (.tuple #[.int .i64 0, errAt (E n)])) w' := by
  have h0 : toNumF l = 0 := by unfold toNumF; rw [h]; rfl
  rw [h0, h]
  exact ⟨rfl, hb⟩
set_option maxRecDepth 20000 in
set_option maxHeartbeats 1000000 in
theorem tonumber_any (v : Value) (l : List UInt8) (w : World) (E : Nat → Addr) (he : ErrsOn [0, 3] w E) (hv : Byt w v l) :
    Calls Tryz.prog 35 #[v] w fun e w' => e = .returned (.tuple #[.int .i64 (toNumF l : Int), errV E (toNumE l)]) ∧ Below w.heap.size w w' := by
  have e0 := he.cell 0 rfl
  have e3 := he.cell 3 rfl
  simp only [errVar, List.getD_cons_zero, List.getD_cons_succ, errAt] at e0 e3
  obtain ⟨p, cap, rfl, h1, h2, h3⟩ := hv
  unfold maxLen at h2
  have H3 := Lib.hid h3
  clear h3 he
  have hcase : l = [] ∨ ∃ c m, l = c :: m := by cases l <;> simp
  rcases hcase with h0 | ⟨c, m, hcm⟩
  · have HF := Lib.hid (show toNumF l = valB l ∧ toNumE l = 0 by subst h0; exact ⟨rfl, rfl⟩)
    have hl8 : l.length ≤ 8 := by subst h0; simp
    have hl63 : valB l ≤ 9223372036854775807 := by subst h0; rw [valB_nil]; omega
    have d1 : decide ((0 : Int) < (l.length : Int)) = false := by subst h0; rfl
    have d1' : decide (0 < l.length) = false := by subst h0; rfl
    have d8 : decide ((8 : Int) < (l.length : Int)) = false := by subst h0; rfl
    have d8' : decide (8 < l.length) = false := by subst h0; rfl
    have e8 : ((l.length : Int) == 8) = false := by subst h0; rfl
    clear h0
    go_enter Tryz.func35, Tryz.ntmps35
    go_wp2_with fail
    go_loop [4, 36] (fun n i => ∃ k : Nat, k ≤ l.length ∧ i = .int .i64 k ∧ n = .int .i64 (valB (l.take k) : Int)) (fun _ i => l.length - (intOf i).toNat)
    case atStart => exact ⟨0, by omega, rfl, rfl⟩
    case round =>
      obtain ⟨k, hk, rfl, rfl⟩ := hrel
      by_cases hlt : k < l.length
      · obtain ⟨b2, off2, hp2, hck⟩ := byt_cell H3.out hlt
        have hpre := valB_pre l hl8 k hlt
        have HT := Lib.hid (valB_take l k hlt)
        have hle := valB_mono l (k + 1) (by omega)
        rw [HT.out] at hle
        have hor := or_byte (valB (l.take k)) l[k].toNat l[k].toNat_lt hpre (by omega)
        have hc8 := l[k].toNat_lt
        first | (cases hp2; skip) | (subst hp2; skip)
        generalize valB (l.take k) = u at *
        generalize l[k].toNat = x at *
        go_wp2_with fail
        go_round
        case rel => exact ⟨k + 1, by omega, by go_num, by rw [HT.out]; go_num⟩
        case measure => simp [intOf]; omega
      · obtain rfl : k = l.length := by omega
        rw [List.take_of_length_le (Nat.le_refl _)]
        go_wp2_with fail
        go_ret2
        rw [HF.out.1, HF.out.2]
        exact ⟨rfl, Below.refl _ _⟩
  · have hpos : 0 < l.length := by rw [hcm]; simp
    obtain ⟨b, off, rfl, hc⟩ := byt_cell H3.out hpos
    have hc0 : w.cell? ⟨b, off, none⟩ = some (.int .u8 (c.toNat : Int)) := by
      have : l[0] = c := by simp [hcm]
      rw [← this]; exact hc
    clear hc
    have d1 : decide ((0 : Int) < (l.length : Int)) = true := by simp; omega
    have d1' : decide (0 < l.length) = true := by simp; omega
    have hc256 := c.toNat_lt
    by_cases hz : c.toNat = 0
    · have dz : ((c.toNat : Int) == 0) = true := by simp [hz]
      have HE := Lib.hid (show toNumE l = 3 + 1 by unfold toNumE; rw [hcm, if_pos]; rw [List.head?_cons]; congr 1; exact UInt8.toNat_inj.1 hz)
      clear hcm hz
      go_enter Tryz.func35, Tryz.ntmps35
      go_wp2_with fail
      go_quiet (fail)
      go_wp2_with fail
      go_ret2
      exact ten_err 3 HE.out (below_drewN _ _)
    · have dz : ((c.toNat : Int) == 0) = false := by simp [hz]
      have hhead : ¬ l.head? = some 0 := by
        rw [hcm, List.head?_cons]; intro e; apply hz; rw [Option.some.inj e]; rfl
      by_cases h8 : 8 < l.length
      · have d8 : decide ((8 : Int) < (l.length : Int)) = true := by simp; omega
        have d8' : decide (8 < l.length) = true := by simp; omega
        have HE := Lib.hid (show toNumE l = 0 + 1 by unfold toNumE; rw [if_neg hhead, if_pos (.inl h8)])
        clear hcm hz hhead
        go_enter Tryz.func35, Tryz.ntmps35
        go_wp2_with fail
        go_quiet (fail)
        go_wp2_with fail
        go_ret2
        exact ten_err 0 HE.out (below_drewN _ _)
      · have d8 : decide ((8 : Int) < (l.length : Int)) = false := by simp; omega
        have d8' : decide (8 < l.length) = false := by simp; omega
        by_cases h7 : l.length = 8 ∧ 127 < c.toNat
        · have e8 : ((l.length : Int) == 8) = true := by simp; omega
          have d127 : decide ((127 : Int) < (c.toNat : Int)) = true := by simp; omega
          have HE := Lib.hid (show toNumE l = 0 + 1 by
            have h9 := (valB_8 c m (by have := h7.1; rw [hcm] at this; simpa using this)).2 h7.2
            rw [← hcm] at h9
            unfold toNumE; rw [if_neg hhead, if_pos (.inr ⟨h7.1, h9⟩)])
          clear hcm hz hhead h7
          go_enter Tryz.func35, Tryz.ntmps35
          go_wp2_with fail
          go_quiet (fail)
          go_wp2_with fail
          go_ret2
          exact ten_err 0 HE.out (below_drewN _ _)
        · have hE0 : toNumE l = 0 := by
            unfold toNumE; rw [if_neg hhead, if_neg]
            rintro (h | ⟨h, h'⟩)
            · exact h8 h
            · apply h7
              refine ⟨h, ?_⟩
              rw [hcm] at h h'
              exact (valB_8 c m (by simpa using h)).1 h'
          have HF := Lib.hid (show toNumF l = valB l ∧ toNumE l = 0 by unfold toNumF; rw [if_pos hE0]; exact ⟨rfl, hE0⟩)
          have hl8 : l.length ≤ 8 := by omega
          have hl63 : valB l ≤ 9223372036854775807 := by
            by_cases h : l.length = 8
            · have : ¬ 127 < c.toNat := fun h' => h7 ⟨h, h'⟩
              rw [hcm] at h ⊢
              have := (valB_8 c m (by simpa using h))
              omega
            · have := valB_7 l (by omega)
              omega
          by_cases h : l.length = 8
          · have e8 : ((l.length : Int) == 8) = true := by simp; omega
            have d127 : decide ((127 : Int) < (c.toNat : Int)) = false := by simp; omega
            clear hcm hz hhead h7 hE0 h
            go_enter Tryz.func35, Tryz.ntmps35
            go_wp2_with fail
            go_loop [4, 36] (fun n i => ∃ k : Nat, k ≤ l.length ∧ i = .int .i64 k ∧ n = .int .i64 (valB (l.take k) : Int)) (fun _ i => l.length - (intOf i).toNat)
            case atStart => exact ⟨0, by omega, rfl, rfl⟩
            case round =>
              obtain ⟨k, hk, rfl, rfl⟩ := hrel
              by_cases hlt : k < l.length
              · obtain ⟨b2, off2, hp2, hck⟩ := byt_cell H3.out hlt
                have hpre := valB_pre l hl8 k hlt
                have HT := Lib.hid (valB_take l k hlt)
                have hle := valB_mono l (k + 1) (by omega)
                rw [HT.out] at hle
                have hor := or_byte (valB (l.take k)) l[k].toNat l[k].toNat_lt hpre (by omega)
                have hc8 := l[k].toNat_lt
                first | (cases hp2; skip) | (subst hp2; skip)
                generalize valB (l.take k) = u at *
                generalize l[k].toNat = x at *
                go_wp2_with fail
                go_round
                case rel => exact ⟨k + 1, by omega, by go_num, by rw [HT.out]; go_num⟩
                case measure => simp [intOf]; omega
              · obtain rfl : k = l.length := by omega
                rw [List.take_of_length_le (Nat.le_refl _)]
                go_wp2_with fail
                go_ret2
                rw [HF.out.1, HF.out.2]
                exact ⟨rfl, Below.refl _ _⟩
          · have e8 : ((l.length : Int) == 8) = false := by simp; omega
            clear hcm hz hhead h7 hE0 h
            go_enter Tryz.func35, Tryz.ntmps35
            go_wp2_with fail
            go_loop [4, 36] (fun n i => ∃ k : Nat, k ≤ l.length ∧ i = .int .i64 k ∧ n = .int .i64 (valB (l.take k) : Int)) (fun _ i => l.length - (intOf i).toNat)
            case atStart => exact ⟨0, by omega, rfl, rfl⟩
            case round =>
              obtain ⟨k, hk, rfl, rfl⟩ := hrel
              by_cases hlt : k < l.length
              · obtain ⟨b2, off2, hp2, hck⟩ := byt_cell H3.out hlt
                have hpre := valB_pre l hl8 k hlt
                have HT := Lib.hid (valB_take l k hlt)
                have hle := valB_mono l (k + 1) (by omega)
                rw [HT.out] at hle
                have hor := or_byte (valB (l.take k)) l[k].toNat l[k].toNat_lt hpre (by omega)
                have hc8 := l[k].toNat_lt
                first | (cases hp2; skip) | (subst hp2; skip)
                generalize valB (l.take k) = u at *
                generalize l[k].toNat = x at *
                go_wp2_with fail
                go_round
                case rel => exact ⟨k + 1, by omega, by go_num, by rw [HT.out]; go_num⟩
                case measure => simp [intOf]; omega
              · obtain rfl : k = l.length := by omega
                rw [List.take_of_length_le (Nat.le_refl _)]
                go_wp2_with fail
                go_ret2
                rw [HF.out.1, HF.out.2]
                exact ⟨rfl, Below.refl _ _⟩
end Go.Proofs.YtjklcbdlfmmllaaGreatDoor
