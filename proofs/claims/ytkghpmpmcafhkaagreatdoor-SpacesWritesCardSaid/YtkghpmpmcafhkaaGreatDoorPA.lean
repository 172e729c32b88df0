/- XmlP -/
import Derived.Lib.ValidU
import Derived.Lib.MapLaws
import Derived.WalkKit
import Derived.Test.YtkghpmpmcafhkaaGreatDoorBA
import Derived.Lib.TrimAscii
import Derived.Lib.IndexMore
import Derived.Lib.TrimUEq
namespace Go.Proofs.YtkghpmpmcafhkaaGreatDoor
set_option maxHeartbeats 4000000
open Go.RowKit
def letB (c : UInt8) : Bool := (decide (97 ≤ c.toNat) && decide (c.toNat ≤ 122)) || (decide (65 ≤ c.toNat) && decide (c.toNat ≤ 90)) || c == 95
def sgnB (c : UInt8) : Bool := letB c || (decide (48 ≤ c.toNat) && decide (c.toNat ≤ 57)) || c == 45 || c == 46
def partB (l : List UInt8) : Bool := match l with | [] => false | c :: _ => decide (l.length ≤ 64) && letB c && l.all sgnB
def cutB (c : UInt8) : List UInt8 → Option (List UInt8 × List UInt8)
  | [] => none
  | x :: xs => if x = c then some ([], xs) else (cutB c xs).map fun p => (x :: p.1, p.2)
def nameB (s : List UInt8) : Bool := match cutB 58 s with | none => partB s | some (a, b) => partB a && partB b
def refN : List UInt8 → Nat → Nat → Bool
  | [], _, n => decide (0 < n)
  | c :: l, p, n => if c = 58 then (if n = 0 ∨ p = 2 then false else refN l 2 0) else if sgnB c = false ∨ (n = 0 ∧ letB c = false) ∨ n = 64 then false else refN l p (n + 1)
theorem sgn_58 : sgnB 58 = false := by decide
def goB (n : Nat) (l : List UInt8) : Bool := decide (0 < n + l.length) && decide (n + l.length ≤ 64) && (match n, l with | 0, c :: _ => letB c | _, _ => true) && l.all sgnB
theorem goB_part (l : List UInt8) : goB 0 l = partB l := by
  unfold goB partB
  cases l with
  | nil => rfl
  | cons c l => simp [Bool.and_comm, Bool.and_left_comm, Bool.and_assoc]
theorem goB_nil (n : Nat) (h : n ≤ 64) : goB n [] = decide (0 < n) := by
  unfold goB
  simp only [List.length_nil, Nat.add_zero, List.all_nil, Bool.and_true, decide_eq_true h]
theorem goB_cons (n : Nat) (c : UInt8) (l : List UInt8) (h : n ≤ 64) : goB n (c :: l) = (if sgnB c = false ∨ (n = 0 ∧ letB c = false) ∨ n = 64 then false else goB (n + 1) l) := by
  unfold goB
  have e : n + (c :: l).length = n + 1 + l.length := by simp; omega
  rw [e, List.all_cons]
  by_cases hc : sgnB c = false ∨ (n = 0 ∧ letB c = false) ∨ n = 64
  · rw [if_pos hc]
    rcases hc with hc | ⟨rfl, hc⟩ | rfl
    · rw [hc]; simp
    · simp [hc]
    · rw [show decide (64 + 1 + l.length ≤ 64) = false from decide_eq_false (by omega)]; simp
  · rw [if_neg hc]
    simp only [not_or, not_and, Bool.not_eq_false] at hc
    rw [hc.1, Bool.true_and]
    cases n with
    | zero => simp [hc.2.1 rfl]
    | succ n => rfl
theorem refN_two : ∀ (l : List UInt8) (n : Nat), n ≤ 64 → refN l 2 n = goB n l
  | [], n, h => by rw [goB_nil n h]; rfl
  | c :: l, n, h => by
    rw [goB_cons n c l h]
    unfold refN
    by_cases hc : c = 58
    · subst hc
      rw [if_pos rfl, if_pos (.inr rfl), if_pos (.inl sgn_58)]
    · rw [if_neg hc]
      split
      · rfl
      · rename_i hh
        exact refN_two l (n + 1) (by simp only [not_or] at hh; omega)
theorem refN_one : ∀ (l : List UInt8) (n : Nat), n ≤ 64 → refN l 1 n = match cutB 58 l with | none => goB n l | some (a, b) => goB n a && partB b
  | [], n, h => by
    show refN [] 1 n = goB n []
    rw [goB_nil n h]; rfl
  | c :: l, n, h => by
    unfold refN cutB
    by_cases hc : c = 58
    · subst hc
      rw [if_pos rfl, if_pos rfl]
      show _ = (goB n [] && partB l)
      rw [goB_nil n h]
      by_cases h0 : n = 0
      · rw [if_pos (.inl h0), h0]; rfl
      · rw [if_neg (by omega), refN_two l 0 (by omega), goB_part, decide_eq_true (by omega), Bool.true_and]
    · rw [if_neg hc, if_neg hc]
      cases hk : cutB 58 l with
      | none =>
        show _ = goB n (c :: l)
        rw [goB_cons n c l h]
        split
        · rfl
        · rename_i hh
          rw [refN_one l (n + 1) (by simp only [not_or] at hh; omega), hk]
      | some p =>
        obtain ⟨a, b⟩ := p
        show _ = (goB n (c :: a) && partB b)
        rw [goB_cons n c a h]
        split
        · rfl
        · rename_i hh
          rw [refN_one l (n + 1) (by simp only [not_or] at hh; omega), hk]
theorem refN_name (l : List UInt8) : refN l 1 0 = nameB l := by
  rw [refN_one l 0 (by omega)]
  unfold nameB
  cases cutB 58 l with
  | none => exact goB_part l
  | some p =>
    obtain ⟨a, b⟩ := p
    show (goB 0 a && partB b) = (partB a && partB b)
    rw [goB_part]
def mayB (r : Nat) : Bool := r == 9 || r == 10 || r == 13 || (decide (32 ≤ r) && decide (r < 55296)) || (decide (57344 ≤ r) && decide (r ≤ 1114111) && r != 65534 && r != 65535)
def signN (n b0 b1 b2 b3 : Nat) : Nat × Nat :=
  if b0 < 128 then (b0, 1)
  else if 192 ≤ b0 ∧ b0 < 224 then
    if 2 ≤ n ∧ 128 ≤ b1 ∧ b1 ≤ 191 ∧ 128 ≤ 64 * (b0 - 192) + (b1 - 128) then (64 * (b0 - 192) + (b1 - 128), 2) else (0, 0)
  else if 224 ≤ b0 ∧ b0 < 240 then
    if 3 ≤ n ∧ (128 ≤ b1 ∧ b1 ≤ 191) ∧ (128 ≤ b2 ∧ b2 ≤ 191) ∧ 2048 ≤ 64 * (64 * (b0 - 224) + (b1 - 128)) + (b2 - 128) ∧ ¬ (55296 ≤ 64 * (64 * (b0 - 224) + (b1 - 128)) + (b2 - 128) ∧ 64 * (64 * (b0 - 224) + (b1 - 128)) + (b2 - 128) ≤ 57343) then (64 * (64 * (b0 - 224) + (b1 - 128)) + (b2 - 128), 3) else (0, 0)
  else if 240 ≤ b0 ∧ b0 < 248 then
    if 4 ≤ n ∧ (128 ≤ b1 ∧ b1 ≤ 191) ∧ (128 ≤ b2 ∧ b2 ≤ 191) ∧ (128 ≤ b3 ∧ b3 ≤ 191) ∧ 65536 ≤ 64 * (64 * (64 * (b0 - 240) + (b1 - 128)) + (b2 - 128)) + (b3 - 128) ∧ 64 * (64 * (64 * (b0 - 240) + (b1 - 128)) + (b2 - 128)) + (b3 - 128) ≤ 1114111 then (64 * (64 * (64 * (b0 - 240) + (b1 - 128)) + (b2 - 128)) + (b3 - 128), 4) else (0, 0)
  else (0, 0)
theorem signN_eq (n b0 b1 b2 b3 : Nat) (h0 : b0 < 256) (h1 : b1 < 256) (h2 : b2 < 256) (h3 : b3 < 256) : signN n b0 b1 b2 b3 = if (Lib.decodeN n b0 b1 b2 b3).1 = 65533 ∧ (Lib.decodeN n b0 b1 b2 b3).2 = 1 then (0, 0) else Lib.decodeN n b0 b1 b2 b3 := by
  by_cases c0 : b0 < 128
  · have hd : Lib.decodeN n b0 b1 b2 b3 = (b0, 1) := (by unfold Lib.decodeN; (repeat' split); all_goals first | (exfalso; omega) | rfl)
    have hs : signN n b0 b1 b2 b3 = (b0, 1) := (by unfold signN; (repeat' split); all_goals first | (exfalso; omega) | rfl)
    rw [hd, hs, if_neg (by simp only; omega)]
  by_cases c1 : 192 ≤ b0 ∧ b0 < 224
  · skip
    by_cases h : 2 ≤ n ∧ (128 ≤ b1 ∧ b1 ≤ 191) ∧ 128 ≤ 64 * (b0 - 192) + (b1 - 128)
    · have e : b0 % 32 * 64 + b1 % 64 = 64 * (b0 - 192) + (b1 - 128) := by omega
      have hd : Lib.decodeN n b0 b1 b2 b3 = (b0 % 32 * 64 + b1 % 64, 2) := (by unfold Lib.decodeN; (repeat' split); all_goals first | (exfalso; omega) | rfl)
      have hs : signN n b0 b1 b2 b3 = (64 * (b0 - 192) + (b1 - 128), 2) := (by unfold signN; (repeat' split); all_goals first | (exfalso; omega) | rfl)
      rw [hd, hs, if_neg (by simp), e]
    · have hd : Lib.decodeN n b0 b1 b2 b3 = (65533, 1) := (by unfold Lib.decodeN; (repeat' split); all_goals first | (exfalso; omega) | rfl)
      have hs : signN n b0 b1 b2 b3 = (0, 0) := (by unfold signN; (repeat' split); all_goals first | (exfalso; omega) | rfl)
      rw [hd, hs, if_pos ⟨rfl, rfl⟩]
  by_cases c2 : 224 ≤ b0 ∧ b0 < 240
  · skip
    by_cases h : 3 ≤ n ∧ (128 ≤ b1 ∧ b1 ≤ 191) ∧ (128 ≤ b2 ∧ b2 ≤ 191) ∧ 2048 ≤ 64 * (64 * (b0 - 224) + (b1 - 128)) + (b2 - 128) ∧ ¬ (55296 ≤ 64 * (64 * (b0 - 224) + (b1 - 128)) + (b2 - 128) ∧ 64 * (64 * (b0 - 224) + (b1 - 128)) + (b2 - 128) ≤ 57343)
    · have e : b0 % 16 * 4096 + b1 % 64 * 64 + b2 % 64 = 64 * (64 * (b0 - 224) + (b1 - 128)) + (b2 - 128) := by omega
      have hd : Lib.decodeN n b0 b1 b2 b3 = (b0 % 16 * 4096 + b1 % 64 * 64 + b2 % 64, 3) := (by unfold Lib.decodeN; (repeat' split); all_goals first | (exfalso; omega) | rfl)
      have hs : signN n b0 b1 b2 b3 = (64 * (64 * (b0 - 224) + (b1 - 128)) + (b2 - 128), 3) := (by unfold signN; (repeat' split); all_goals first | (exfalso; omega) | rfl)
      rw [hd, hs, if_neg (by simp), e]
    · have hd : Lib.decodeN n b0 b1 b2 b3 = (65533, 1) := (by unfold Lib.decodeN; (repeat' split); all_goals first | (exfalso; omega) | rfl)
      have hs : signN n b0 b1 b2 b3 = (0, 0) := (by unfold signN; (repeat' split); all_goals first | (exfalso; omega) | rfl)
      rw [hd, hs, if_pos ⟨rfl, rfl⟩]
  by_cases c3 : 240 ≤ b0 ∧ b0 < 248
  · skip
    by_cases h : 4 ≤ n ∧ (128 ≤ b1 ∧ b1 ≤ 191) ∧ (128 ≤ b2 ∧ b2 ≤ 191) ∧ (128 ≤ b3 ∧ b3 ≤ 191) ∧ 65536 ≤ 64 * (64 * (64 * (b0 - 240) + (b1 - 128)) + (b2 - 128)) + (b3 - 128) ∧ 64 * (64 * (64 * (b0 - 240) + (b1 - 128)) + (b2 - 128)) + (b3 - 128) ≤ 1114111
    · have e : b0 % 8 * 262144 + b1 % 64 * 4096 + b2 % 64 * 64 + b3 % 64 = 64 * (64 * (64 * (b0 - 240) + (b1 - 128)) + (b2 - 128)) + (b3 - 128) := by omega
      have hd : Lib.decodeN n b0 b1 b2 b3 = (b0 % 8 * 262144 + b1 % 64 * 4096 + b2 % 64 * 64 + b3 % 64, 4) := (by unfold Lib.decodeN; (repeat' split); all_goals first | (exfalso; omega) | rfl)
      have hs : signN n b0 b1 b2 b3 = (64 * (64 * (64 * (b0 - 240) + (b1 - 128)) + (b2 - 128)) + (b3 - 128), 4) := (by unfold signN; (repeat' split); all_goals first | (exfalso; omega) | rfl)
      rw [hd, hs, if_neg (by simp), e]
    · have hd : Lib.decodeN n b0 b1 b2 b3 = (65533, 1) := (by unfold Lib.decodeN; (repeat' split); all_goals first | (exfalso; omega) | rfl)
      have hs : signN n b0 b1 b2 b3 = (0, 0) := (by unfold signN; (repeat' split); all_goals first | (exfalso; omega) | rfl)
      rw [hd, hs, if_pos ⟨rfl, rfl⟩]
  · have hd : Lib.decodeN n b0 b1 b2 b3 = (65533, 1) := (by unfold Lib.decodeN; (repeat' split); all_goals first | (exfalso; omega) | rfl)
    have hs : signN n b0 b1 b2 b3 = (0, 0) := (by unfold signN; (repeat' split); all_goals first | (exfalso; omega) | rfl)
    rw [hd, hs, if_pos ⟨rfl, rfl⟩]
def badB (l : List UInt8) : Bool := (Lib.decodeL l).1 == 65533 && (Lib.decodeL l).2 == 1
def signF (l : List UInt8) : Nat × Nat := if badB l then (0, 0) else Lib.decodeL l
theorem signF_N (l : List UInt8) : signF l = signN l.length (l.getD 0 0).toNat (l.getD 1 0).toNat (l.getD 2 0).toNat (l.getD 3 0).toNat := by
  rw [signN_eq _ _ _ _ _ (l.getD 0 0).toNat_lt (l.getD 1 0).toNat_lt (l.getD 2 0).toNat_lt (l.getD 3 0).toNat_lt, ← Lib.decodeL_N]
  unfold signF badB
  by_cases h : (Lib.decodeL l).1 = 65533 ∧ (Lib.decodeL l).2 = 1
  · rw [if_pos h, if_pos (by simp [h.1, h.2])]
  · rw [if_neg h, if_neg (by simpa using h)]
def sigGo : Nat → List UInt8 → Bool
  | 0, _ => true
  | n + 1, l => if l = [] then true else if badB l = true ∨ mayB (Lib.decodeL l).1 = false then false else sigGo n (l.drop (Lib.decodeL l).2)
def sigB (l : List UInt8) : Bool := sigGo l.length l
def runGo : Nat → List UInt8 → Bool
  | 0, _ => true
  | n + 1, l => if l = [] then true else if mayB (Lib.decodeL l).1 = false then false else runGo n (l.drop (Lib.decodeL l).2)
theorem sig_run : ∀ (n : Nat) (l : List UInt8), sigGo n l = (Lib.validGoD n l && runGo n l)
  | 0, _ => rfl
  | n + 1, l => by
    unfold sigGo Lib.validGoD runGo
    by_cases h0 : l = []
    · rw [if_pos h0, if_pos h0, if_pos h0]; rfl
    · rw [if_neg h0, if_neg h0, if_neg h0]
      by_cases hb : (Lib.decodeL l).1 = 65533 ∧ (Lib.decodeL l).2 = 1
      · rw [if_pos (.inl (by unfold badB; simp [hb.1, hb.2])), if_pos hb, Bool.false_and]
      · have hb2 : badB l = false := by
          unfold badB
          rw [Bool.eq_false_iff]
          intro h
          simp only [Bool.and_eq_true, beq_iff_eq] at h
          exact hb h
        rw [if_neg hb]
        cases hm : mayB (Lib.decodeL l).1
        · rw [if_pos (.inr rfl), if_pos rfl, Bool.and_false]
        · rw [if_neg (by rw [hb2]; simp), if_neg (by decide), sig_run n]
def escT (r : Nat) (value : Bool) : Option (List UInt8) :=
  if r = 60 then some [38, 108, 116, 59] else if r = 62 then some [38, 103, 116, 59] else if r = 38 then some [38, 97, 109, 112, 59] else if r = 13 then some [38, 35, 49, 51, 59]
  else if value = false then none else if r = 34 then some [38, 113, 117, 111, 116, 59] else if r = 9 then some [38, 35, 57, 59] else if r = 10 then some [38, 35, 49, 48, 59] else none
def escOne (value : Bool) (l : List UInt8) : List UInt8 :=
  if badB l = true ∨ mayB (Lib.decodeL l).1 = false then [] else (escT (Lib.decodeL l).1 value).getD (l.take (Lib.decodeL l).2)
def escGo : Nat → Bool → List UInt8 → List UInt8
  | 0, _, _ => []
  | n + 1, v, l => if l = [] then [] else escOne v l ++ escGo n v (l.drop (Lib.decodeL l).2)
def escF (v : Bool) (l : List UInt8) : List UInt8 := escGo l.length v l
theorem escGo_more : ∀ (n m : Nat) (v : Bool) (l : List UInt8), l.length ≤ n → l.length ≤ m → escGo n v l = escGo m v l
  | 0, m, v, l, h, _ => by
    obtain rfl : l = [] := List.length_eq_zero_iff.1 (by omega)
    cases m <;> simp [escGo]
  | n + 1, 0, v, l, _, h => by
    obtain rfl : l = [] := List.length_eq_zero_iff.1 (by omega)
    simp [escGo]
  | n + 1, m + 1, v, l, h1, h2 => by
    unfold escGo
    by_cases h0 : l = []
    · rw [if_pos h0, if_pos h0]
    · have hw := Lib.decodeL_width l
      have hl : 0 < l.length := List.length_pos_iff.2 h0
      rw [if_neg h0, if_neg h0, escGo_more n m v _ (by rw [List.length_drop]; omega) (by rw [List.length_drop]; omega)]
theorem escF_step (v : Bool) (l : List UInt8) (h : l ≠ []) : escF v l = escOne v l ++ escF v (l.drop (Lib.decodeL l).2) := by
  have hw := Lib.decodeL_width l
  have hl : 0 < l.length := List.length_pos_iff.2 h
  unfold escF
  obtain ⟨n, hn⟩ : ∃ n, l.length = n + 1 := ⟨l.length - 1, by omega⟩
  rw [hn]
  conv => lhs; unfold escGo
  rw [if_neg h, escGo_more n _ v _ (by rw [List.length_drop]; omega) (Nat.le_refl _)]
theorem sigGo_more : ∀ (n m : Nat) (l : List UInt8), l.length ≤ n → l.length ≤ m → sigGo n l = sigGo m l
  | 0, m, l, h, _ => by
    obtain rfl : l = [] := List.length_eq_zero_iff.1 (by omega)
    cases m <;> simp [sigGo]
  | n + 1, 0, l, _, h => by
    obtain rfl : l = [] := List.length_eq_zero_iff.1 (by omega)
    simp [sigGo]
  | n + 1, m + 1, l, h1, h2 => by
    unfold sigGo
    by_cases h0 : l = []
    · rw [if_pos h0, if_pos h0]
    · have hw := Lib.decodeL_width l
      have hl : 0 < l.length := List.length_pos_iff.2 h0
      rw [if_neg h0, if_neg h0, sigGo_more n m _ (by rw [List.length_drop]; omega) (by rw [List.length_drop]; omega)]
theorem sigB_step (l : List UInt8) (h : l ≠ []) : sigB l = if badB l = true ∨ mayB (Lib.decodeL l).1 = false then false else sigB (l.drop (Lib.decodeL l).2) := by
  have hw := Lib.decodeL_width l
  have hl : 0 < l.length := List.length_pos_iff.2 h
  unfold sigB
  obtain ⟨n, hn⟩ : ∃ n, l.length = n + 1 := ⟨l.length - 1, by omega⟩
  rw [hn]
  conv => lhs; unfold sigGo
  rw [if_neg h, sigGo_more n _ _ (by rw [List.length_drop]; omega) (Nat.le_refl _)]
end Go.Proofs.YtkghpmpmcafhkaaGreatDoor
namespace Go.Proofs.YtkghpmpmcafhkaaGreatDoor
set_option maxHeartbeats 4000000
open Go.RowKit
def Gives (w : World) (v : Value) (e : Ending) (w' : World) : Prop := e = .returned v ∧ Below w.heap.size w w'
end Go.Proofs.YtkghpmpmcafhkaaGreatDoor
namespace Go.Proofs.YtkghpmpmcafhkaaGreatDoor
set_option maxHeartbeats 4000000
open Go.RowKit
inductive Tr where
  | node (nm : List (List UInt8)) (ats : List (List (List UInt8))) (ks : List Tr) (t : List UInt8)
def Tr.nm : Tr → List (List UInt8) | .node nm _ _ _ => nm
def Tr.ats : Tr → List (List (List UInt8)) | .node _ ats _ _ => ats
def Tr.ks : Tr → List Tr | .node _ _ ks _ => ks
def Tr.t : Tr → List UInt8 | .node _ _ _ t => t
def strs (l : List (List UInt8)) : List Value := l.map fun s => .string (bs s)
theorem strs_len (l : List (List UInt8)) : (strs l).length = l.length := by simp [strs]
def acells (ats : List (List (List UInt8))) : List Value := ats.flatMap strs
mutual
def Tr.ok (k : Nat) : Tr → Prop
  | .node nm ats ks _ => nm.length = k ∧ (∀ a ∈ ats, a.length = k + 1) ∧ Tr.okL k ks
def Tr.okL (k : Nat) : List Tr → Prop
  | [] => True
  | x :: xs => x.ok k ∧ Tr.okL k xs
end
mutual
def TrC (w : World) (P : Nat → Prop) : Tr → List Value → Prop
  | .node nm ats ks t, cs => ∃ pa ca pk ck css, cs = strs nm ++ [.slice pa ats.length ca, .slice pk ks.length ck, .string (bs t)] ∧
      (ats.length ≤ ca ∧ ca ≤ maxLen ∧ Rd w pa (acells ats) ∧ ∀ a, pa = some a → P a.block) ∧
      (ks.length ≤ ck ∧ ck ≤ maxLen ∧ Rd w pk css.flatten ∧ ∀ a, pk = some a → P a.block) ∧ TrL w P ks css
def TrL (w : World) (P : Nat → Prop) : List Tr → List (List Value) → Prop
  | [], css => css = []
  | k :: ks, css => ∃ c cs, css = c :: cs ∧ TrC w P k c ∧ TrL w P ks cs
end
theorem Rd.keepP {w w' : World} {p : Option Addr} {xs : List Value} (h : Rd w p xs) {P : Nat → Prop} (hP : ∀ a, p = some a → P a.block) (hk : ∀ a v, P a.block → w.cell? a = some v → w'.cell? a = some v) : Rd w' p xs := by
  rcases h with h | ⟨b, off, hp, hc⟩
  · exact .inl h
  · exact .inr ⟨b, off, hp, fun i u hu => hk ⟨b, off + i, none⟩ _ (show P b from hP ⟨b, off, none⟩ hp) (hc i u hu)⟩
mutual
theorem TrC.keepP {w w' : World} {P : Nat → Prop} (hk : ∀ a v, P a.block → w.cell? a = some v → w'.cell? a = some v) : ∀ (x : Tr) (cs : List Value), TrC w P x cs → TrC w' P x cs
  | .node nm ats ks t, cs, h => by
    unfold TrC at h ⊢
    obtain ⟨pa, ca, pk, ck, css, h1, h2, h3, h4⟩ := h
    exact ⟨pa, ca, pk, ck, css, h1, ⟨h2.1, h2.2.1, h2.2.2.1.keepP h2.2.2.2 hk, h2.2.2.2⟩, ⟨h3.1, h3.2.1, h3.2.2.1.keepP h3.2.2.2 hk, h3.2.2.2⟩, TrL.keepP hk ks css h4⟩
theorem TrL.keepP {w w' : World} {P : Nat → Prop} (hk : ∀ a v, P a.block → w.cell? a = some v → w'.cell? a = some v) : ∀ (xs : List Tr) (css : List (List Value)), TrL w P xs css → TrL w' P xs css
  | [], css, h => by unfold TrL at h ⊢; exact h
  | x :: xs, css, h => by
    unfold TrL at h ⊢
    obtain ⟨c, cs, h1, h2, h3⟩ := h
    exact ⟨c, cs, h1, TrC.keepP hk x c h2, TrL.keepP hk xs cs h3⟩
end
mutual
theorem TrC.imp {w : World} {P Q : Nat → Prop} (hk : ∀ b, P b → Q b) : ∀ (x : Tr) (cs : List Value), TrC w P x cs → TrC w Q x cs
  | .node nm ats ks t, cs, h => by
    unfold TrC at h ⊢
    obtain ⟨pa, ca, pk, ck, css, h1, h2, h3, h4⟩ := h
    exact ⟨pa, ca, pk, ck, css, h1, ⟨h2.1, h2.2.1, h2.2.2.1, fun a ha => hk _ (h2.2.2.2 a ha)⟩, ⟨h3.1, h3.2.1, h3.2.2.1, fun a ha => hk _ (h3.2.2.2 a ha)⟩, TrL.imp hk ks css h4⟩
theorem TrL.imp {w : World} {P Q : Nat → Prop} (hk : ∀ b, P b → Q b) : ∀ (xs : List Tr) (css : List (List Value)), TrL w P xs css → TrL w Q xs css
  | [], css, h => by unfold TrL at h ⊢; exact h
  | x :: xs, css, h => by
    unfold TrL at h ⊢
    obtain ⟨c, cs, h1, h2, h3⟩ := h
    exact ⟨c, cs, h1, TrC.imp hk x c h2, TrL.imp hk xs cs h3⟩
end
theorem TrC.below {w w' : World} {P : Nat → Prop} {x : Tr} {cs : List Value} (h : TrC w P x cs) (hb : Below w.heap.size w w') : TrC w' P x cs := h.keepP (fun a v _ hv => Below.keeps hb a v hv)
theorem TrL.below {w w' : World} {P : Nat → Prop} {xs : List Tr} {css : List (List Value)} (h : TrL w P xs css) (hb : Below w.heap.size w w') : TrL w' P xs css := h.keepP (fun a v _ hv => Below.keeps hb a v hv)
def TrV (w : World) (P : Nat → Prop) (x : Tr) (v : Value) : Prop := ∃ cs, v = .agg cs.toArray ∧ TrC w P x cs
theorem TrV.below {w w' : World} {P : Nat → Prop} {x : Tr} {v : Value} (h : TrV w P x v) (hb : Below w.heap.size w w') : TrV w' P x v := by
  obtain ⟨cs, rfl, hc⟩ := h
  exact ⟨cs, rfl, hc.below hb⟩
theorem TrC.len {w : World} {P : Nat → Prop} {x : Tr} {cs : List Value} (h : TrC w P x cs) : cs.length = x.nm.length + 3 := by
  cases x
  unfold TrC at h
  obtain ⟨pa, ca, pk, ck, css, rfl, _⟩ := h
  simp [strs_len, Tr.nm]
theorem TrL.len {w : World} {P : Nat → Prop} : ∀ {xs : List Tr} {css : List (List Value)}, TrL w P xs css → css.length = xs.length
  | [], css, h => by unfold TrL at h; rw [h]; rfl
  | x :: xs, css, h => by
    unfold TrL at h
    obtain ⟨c, cs, rfl, _, h3⟩ := h
    simp [TrL.len h3]
theorem TrL.get {w : World} {P : Nat → Prop} : ∀ {xs : List Tr} {css : List (List Value)}, TrL w P xs css → ∀ (i : Nat) (hi : i < xs.length), ∃ c, css[i]? = some c ∧ TrC w P xs[i] c
  | [], css, h, i, hi => by simp at hi
  | x :: xs, css, h, i, hi => by
    unfold TrL at h
    obtain ⟨c, cs, rfl, h2, h3⟩ := h
    cases i with
    | zero => exact ⟨c, rfl, h2⟩
    | succ i => exact h3.get i (by simpa using hi)
theorem TrL.app {w : World} {P : Nat → Prop} : ∀ {xs ys : List Tr} {css dss : List (List Value)}, TrL w P xs css → TrL w P ys dss → TrL w P (xs ++ ys) (css ++ dss)
  | [], ys, css, dss, h, h' => by unfold TrL at h; rw [h]; exact h'
  | x :: xs, ys, css, dss, h, h' => by
    unfold TrL at h
    obtain ⟨c, cs, rfl, h2, h3⟩ := h
    rw [List.cons_append, List.cons_append]
    unfold TrL
    exact ⟨c, cs ++ dss, rfl, h2, TrL.app h3 h'⟩
theorem TrL.one {w : World} {P : Nat → Prop} {x : Tr} {c : List Value} (h : TrC w P x c) : TrL w P [x] [c] := by
  unfold TrL
  exact ⟨c, [], rfl, h, by unfold TrL; rfl⟩
theorem okL_get (k : Nat) : ∀ (xs : List Tr), Tr.okL k xs → ∀ (i : Nat) (hi : i < xs.length), (xs[i]).ok k
  | [], _, i, hi => by simp at hi
  | x :: xs, h, i, hi => by
    unfold Tr.okL at h
    cases i with
    | zero => exact h.1
    | succ i => exact okL_get k xs h.2 i (by simpa using hi)
theorem flat_get {α : Type} (m : Nat) : ∀ (css : List (List α)), (∀ c ∈ css, c.length = m) → ∀ (i j : Nat) (c : List α) (u : α), css[i]? = some c → c[j]? = some u → css.flatten[i * m + j]? = some u
  | [], _, i, j, c, u, h, _ => by simp at h
  | d :: ds, hm, i, j, c, u, h, h' => by
    have hd : d.length = m := hm d (by simp)
    rw [List.flatten_cons]
    cases i with
    | zero =>
      rw [List.getElem?_cons_zero, Option.some.injEq] at h
      subst h
      rw [Nat.zero_mul, Nat.zero_add, List.getElem?_append_left (List.getElem?_eq_some_iff.1 h').1]
      exact h'
    | succ i =>
      rw [List.getElem?_append_right (by rw [hd, Nat.succ_mul]; omega), hd, show (i + 1) * m + j - m = i * m + j by rw [Nat.succ_mul]; omega]
      exact flat_get m ds (fun c hc => hm c (by simp [hc])) i j c u (by simpa using h) h'
theorem at_cell {w : World} {p : Option Addr} {ats : List (List (List UInt8))} {k : Nat} (h : Rd w p (acells ats)) (hk : ∀ a ∈ ats, a.length = k + 1) {i : Nat} (hi : i < ats.length) :
    ∃ b off, p = some ⟨b, off, none⟩ ∧ ∀ (j : Nat) (hj : j < k + 1), w.cell? ⟨b, off + (i * (k + 1) + j), none⟩ = some (.string (bs (ats[i][j]'(by rw [hk _ (List.getElem_mem hi)]; exact hj)))) := by
  have hl : ats[i].length = k + 1 := hk _ (List.getElem_mem hi)
  have g : ∀ (j : Nat) (hj : j < k + 1), (acells ats)[i * (k + 1) + j]? = some (.string (bs (ats[i][j]'(by rw [hl]; exact hj)))) := by
    intro j hj
    unfold acells
    rw [List.flatMap_def]
    refine flat_get (k + 1) (ats.map strs) (fun c hc => ?_) i j (strs ats[i]) _ (by simp [hi]) (by simp [strs, hl, hj])
    obtain ⟨a, ha, rfl⟩ := List.mem_map.1 hc
    rw [strs_len, hk a ha]
  obtain ⟨b, off, hp, hc⟩ := h.has (fun e => by have := g 0 (by omega); rw [e] at this; simp at this)
  exact ⟨b, off, hp, fun j hj => hc _ _ (g j hj)⟩
theorem kid_cell {w : World} {p : Option Addr} {ks : List Tr} {css : List (List Value)} {P : Nat → Prop} {k : Nat} (h : Rd w p css.flatten) (hL : TrL w P ks css) (hk : Tr.okL k ks) {i : Nat} (hi : i < ks.length) :
    ∃ b off c, p = some ⟨b, off, none⟩ ∧ TrC w P ks[i] c ∧ c.length = k + 3 ∧ ∀ (j : Nat) (hj : j < c.length), w.cell? ⟨b, off + (i * (k + 3) + j), none⟩ = some c[j] := by
  obtain ⟨c, hc, hT⟩ := hL.get i hi
  have hlen : ∀ d ∈ css, d.length = k + 3 := by
    intro d hd
    obtain ⟨n, hn, rfl⟩ := List.getElem_of_mem hd
    have hn' : n < ks.length := by rw [← hL.len]; exact hn
    obtain ⟨d', hd', hT'⟩ := hL.get n hn'
    rw [List.getElem?_eq_getElem hn, Option.some.injEq] at hd'
    have ho := okL_get k ks hk n hn'
    rw [hd', hT'.len]
    cases hx : ks[n]
    rw [hx] at ho
    unfold Tr.ok at ho
    simp [Tr.nm, ho.1]
  have hcl : c.length = k + 3 := hlen c (List.mem_of_getElem? hc)
  have g : ∀ (j : Nat) (hj : j < c.length), css.flatten[i * (k + 3) + j]? = some c[j] := fun j hj => flat_get (k + 3) css hlen i j c _ hc (by simp [hj])
  obtain ⟨b, off, hp, hcc⟩ := h.has (fun e => by have := g 0 (by omega); rw [e] at this; simp at this)
  exact ⟨b, off, c, hp, hT, hcl, fun j hj => hcc _ _ (g j hj)⟩
end Go.Proofs.YtkghpmpmcafhkaaGreatDoor
namespace Go.Proofs.YtkghpmpmcafhkaaGreatDoor
set_option maxHeartbeats 4000000
open Go.RowKit
mutual
def Tr.eqb : Tr → Tr → Bool
  | .node n1 a1 k1 t1, .node n2 a2 k2 t2 => (n1 == n2) && (t1 == t2) && (a1 == a2) && Tr.eqbL k1 k2
def Tr.eqbL : List Tr → List Tr → Bool
  | [], [] => true
  | x :: xs, y :: ys => x.eqb y && Tr.eqbL xs ys
  | [], _ :: _ => false
  | _ :: _, [] => false
end
mutual
theorem Tr.eqb_refl : ∀ x : Tr, x.eqb x = true
  | .node n a k t => by unfold Tr.eqb; simp [Tr.eqbL_refl k]
theorem Tr.eqbL_refl : ∀ xs : List Tr, Tr.eqbL xs xs = true
  | [] => by unfold Tr.eqbL; rfl
  | x :: xs => by unfold Tr.eqbL; simp [Tr.eqb_refl x, Tr.eqbL_refl xs]
end
mutual
theorem Tr.eqb_eq : ∀ x y : Tr, x.eqb y = true → x = y
  | .node n1 a1 k1 t1, .node n2 a2 k2 t2, h => by
    unfold Tr.eqb at h
    simp only [Bool.and_eq_true, beq_iff_eq] at h
    obtain ⟨⟨⟨rfl, rfl⟩, rfl⟩, h4⟩ := h
    rw [Tr.eqbL_eq k1 k2 h4]
theorem Tr.eqbL_eq : ∀ xs ys : List Tr, Tr.eqbL xs ys = true → xs = ys
  | [], [], _ => rfl
  | x :: xs, y :: ys, h => by
    unfold Tr.eqbL at h
    simp only [Bool.and_eq_true] at h
    rw [Tr.eqb_eq x y h.1, Tr.eqbL_eq xs ys h.2]
  | [], _ :: _, h => by unfold Tr.eqbL at h; cases h
  | _ :: _, [], h => by unfold Tr.eqbL at h; cases h
end
theorem Tr.eqbL_len {xs ys : List Tr} (h : xs.length ≠ ys.length) : Tr.eqbL xs ys = false := by
  rw [Bool.eq_false_iff]
  intro e
  exact h (by rw [Tr.eqbL_eq xs ys e])
theorem Tr.eqbL_drop {xs ys : List Tr} (h : xs.length = ys.length) {i : Nat} (hi : i < xs.length) :
    Tr.eqbL (xs.drop i) (ys.drop i) = (xs[i].eqb (ys[i]'(h ▸ hi)) && Tr.eqbL (xs.drop (i + 1)) (ys.drop (i + 1))) := by
  rw [List.drop_eq_getElem_cons hi, List.drop_eq_getElem_cons (show i < ys.length from h ▸ hi)]
  conv => lhs; unfold Tr.eqbL
mutual
def Tr.sz : Tr → Nat
  | .node _ _ ks _ => 1 + Tr.szL ks
def Tr.szL : List Tr → Nat
  | [] => 0
  | x :: xs => x.sz + Tr.szL xs
end
theorem Tr.sz_get : ∀ (xs : List Tr) (i : Nat) (hi : i < xs.length), xs[i].sz ≤ Tr.szL xs
  | [], i, hi => by simp at hi
  | x :: xs, i, hi => by
    unfold Tr.szL
    cases i with
    | zero => simp
    | succ i => have := Tr.sz_get xs i (by simpa using hi); simp; omega
theorem Tr.sz_pos (x : Tr) : 1 ≤ x.sz := by cases x; unfold Tr.sz; omega
theorem Tr.sz_kid (x : Tr) (i : Nat) (hi : i < x.ks.length) : x.ks[i].sz < x.sz := by
  obtain ⟨nm, ats, ks, t⟩ := x
  have h : ks[i].sz ≤ Tr.szL ks := Tr.sz_get ks i hi
  show ks[i].sz < Tr.sz (.node nm ats ks t)
  rw [Tr.sz]
  omega
theorem two_of {l : List (List UInt8)} (h : l.length = 2) : ∃ a b, l = [a, b] := by
  match l, h with
  | [a, b], _ => exact ⟨a, b, rfl⟩
theorem one_of {l : List (List UInt8)} (h : l.length = 1) : ∃ a, l = [a] := by
  match l, h with
  | [a], _ => exact ⟨a, rfl⟩
theorem three_of {l : List (List UInt8)} (h : l.length = 3) : ∃ a b c, l = [a, b, c] := by
  match l, h with
  | [a, b, c], _ => exact ⟨a, b, c, rfl⟩
theorem take_step {α : Type} {xs ys : List α} {i : Nat} (hx : i < xs.length) (hy : i < ys.length) (h : xs.take i = ys.take i) (he : xs[i] = ys[i]) : xs.take (i + 1) = ys.take (i + 1) := by
  rw [List.take_succ_eq_append_getElem hx, List.take_succ_eq_append_getElem hy, h, he]
end Go.Proofs.YtkghpmpmcafhkaaGreatDoor
namespace Go.Proofs.YtkghpmpmcafhkaaGreatDoor
set_option maxHeartbeats 4000000
open Go.RowKit
def Tr.name (x : Tr) : List UInt8 := x.nm.getD 0 []
def atsB : List (List UInt8) → List (List (List UInt8)) → Bool
  | _, [] => true
  | seen, a :: l => nameB (a.getD 0 []) && sigB (a.getD 1 []) && !seen.contains (a.getD 0 []) && atsB (seen ++ [a.getD 0 []]) l
def txtB (prev : Bool) (k : Tr) : Bool := !(k.t == []) && !prev && decide (k.ats.length = 0) && decide (k.ks.length = 0) && sigB k.t
mutual
def Tr.rgt : Nat → Tr → Bool
  | d, .node nm ats ks t => decide (d ≤ 12) && nameB (nm.getD 0 []) && (t == []) && atsB [] ats && decide (ats.length ≤ 12) && Tr.rgtL d false ks
def Tr.rgtL : Nat → Bool → List Tr → Bool
  | _, _, [] => true
  | d, prev, k :: ks => if (k.name == []) = false then Tr.rgt (d + 1) k && Tr.rgtL d false ks else txtB prev k && Tr.rgtL d true ks
end
def atT (a : List (List UInt8)) : List UInt8 := [32] ++ a.getD 0 [] ++ [61, 34] ++ escF true (a.getD 1 []) ++ [34]
mutual
def Tr.wrt : Tr → List UInt8
  | .node nm ats ks t => if nm.getD 0 [] = [] then escF false t else
      [60] ++ nm.getD 0 [] ++ ats.flatMap atT ++ (if ks.length = 0 then [47, 62] else [62] ++ Tr.wrtL ks ++ ([60, 47] ++ nm.getD 0 [] ++ [62]))
def Tr.wrtL : List Tr → List UInt8
  | [] => []
  | k :: ks => k.wrt ++ Tr.wrtL ks
end
def textE (x : Tr) : Nat := if x.rgt 1 = false then 4 else if 20000 < x.wrt.length then 3 else 0
def textS (x : Tr) : List UInt8 := if textE x = 0 then x.wrt else []
theorem wrtL_nil : Tr.wrtL [] = [] := by rw [Tr.wrtL]
theorem wrtL_cons (x : Tr) (xs : List Tr) : Tr.wrtL (x :: xs) = x.wrt ++ Tr.wrtL xs := by rw [Tr.wrtL]
theorem wrtL_append : ∀ xs ys : List Tr, Tr.wrtL (xs ++ ys) = Tr.wrtL xs ++ Tr.wrtL ys
  | [], ys => by rw [List.nil_append, wrtL_nil, List.nil_append]
  | x :: xs, ys => by rw [List.cons_append, wrtL_cons, wrtL_cons, wrtL_append xs ys, List.append_assoc]
theorem wrtL_take {xs : List Tr} {i : Nat} (h : i < xs.length) : Tr.wrtL (xs.take (i + 1)) = Tr.wrtL (xs.take i) ++ xs[i].wrt := by
  rw [List.take_succ_eq_append_getElem h, wrtL_append]
  rw [wrtL_cons, wrtL_nil, List.append_nil]
theorem wrtL_le {xs : List Tr} {i : Nat} : (Tr.wrtL (xs.take i)).length ≤ (Tr.wrtL xs).length := by
  conv => rhs; rw [← List.take_append_drop i xs, wrtL_append, List.length_append]
  omega
theorem atT_take {xs : List (List (List UInt8))} {i : Nat} (h : i < xs.length) : (xs.take (i + 1)).flatMap atT = (xs.take i).flatMap atT ++ atT xs[i] := by
  rw [List.take_succ_eq_append_getElem h, List.flatMap_append]
  simp
theorem rgtL_drop {xs : List Tr} {i d : Nat} {p : Bool} (h : i < xs.length) : Tr.rgtL d p (xs.drop i) = if (xs[i].name == []) = false then Tr.rgt (d + 1) xs[i] && Tr.rgtL d false (xs.drop (i + 1)) else txtB p xs[i] && Tr.rgtL d true (xs.drop (i + 1)) := by
  rw [List.drop_eq_getElem_cons h]
  conv => lhs; unfold Tr.rgtL
theorem atsB_drop {xs : List (List (List UInt8))} {i : Nat} (h : i < xs.length) : atsB ((xs.take i).map fun a => a.getD 0 []) (xs.drop i) = (nameB (xs[i].getD 0 []) && sigB (xs[i].getD 1 []) && !((xs.take i).map fun a => a.getD 0 []).contains (xs[i].getD 0 []) && atsB ((xs.take (i + 1)).map fun a => a.getD 0 []) (xs.drop (i + 1))) := by
  rw [List.drop_eq_getElem_cons h, List.take_succ_eq_append_getElem h, List.map_append]
  conv => lhs; unfold atsB
  rfl
end Go.Proofs.YtkghpmpmcafhkaaGreatDoor
namespace Go.Proofs.YtkghpmpmcafhkaaGreatDoor
set_option maxHeartbeats 4000000
open Go.RowKit
theorem cutB_cons (c x : UInt8) (xs : List UInt8) : cutB c (x :: xs) = if x = c then some ([], xs) else (cutB c xs).map fun p => (x :: p.1, p.2) := rfl
end Go.Proofs.YtkghpmpmcafhkaaGreatDoor
namespace Go.Proofs.YtkghpmpmcafhkaaGreatDoor
set_option maxHeartbeats 4000000
open Go.RowKit
theorem escF_nil (v : Bool) : escF v [] = [] := rfl
end Go.Proofs.YtkghpmpmcafhkaaGreatDoor
namespace Go.Proofs.YtkghpmpmcafhkaaGreatDoor
set_option maxHeartbeats 4000000
open Go.RowKit
theorem cutB_app {c : UInt8} : ∀ {s a b : List UInt8}, cutB c s = some (a, b) → s = a ++ c :: b
  | [], a, b, h => by cases h
  | x :: xs, a, b, h => by
    rw [cutB_cons] at h
    split at h
    · rename_i e; cases h; rw [e]; rfl
    · rw [Option.map_eq_some_iff] at h
      obtain ⟨⟨p, q⟩, h1, h2⟩ := h
      cases h2
      rw [cutB_app h1]
      rfl
end Go.Proofs.YtkghpmpmcafhkaaGreatDoor
namespace Go.Proofs.YtkghpmpmcafhkaaGreatDoor
set_option maxHeartbeats 4000000
open Go.RowKit
theorem cut_index (c : UInt8) : ∀ s : List UInt8, (cutB c s = none ∧ Lib.index s [c] = -1) ∨ ∃ a b, cutB c s = some (a, b) ∧ Lib.index s [c] = (a.length : Int)
  | [] => .inl ⟨rfl, rfl⟩
  | x :: xs => by
    rw [cutB_cons]
    unfold Lib.index
    by_cases h : x = c
    · subst h
      rw [if_pos rfl, if_pos (by simp [List.isPrefixOf])]
      exact .inr ⟨[], xs, rfl, rfl⟩
    · rw [if_neg h, if_neg (by simp [List.isPrefixOf, Ne.symm h])]
      rcases cut_index c xs with ⟨h1, h2⟩ | ⟨a, b, h1, h2⟩
      · rw [h1, h2]
        exact .inl ⟨rfl, rfl⟩
      · rw [h1, h2]
        refine .inr ⟨x :: a, b, rfl, ?_⟩
        have : ((a.length : Int) == -1) = false := by rw [beq_eq_false_iff_ne]; omega
        rw [this]
        simp
theorem lib_cut (c : UInt8) (s : List UInt8) : Lib.cut s [c] = match cutB c s with | none => (s, [], false) | some (a, b) => (a, b, true) := by
  unfold Lib.cut
  rcases cut_index c s with ⟨h1, h2⟩ | ⟨a, b, h1, h2⟩
  · rw [h1, h2]
    rfl
  · rw [h1, h2, if_pos (by omega), cutB_app h1]
    simp
end Go.Proofs.YtkghpmpmcafhkaaGreatDoor
namespace Go.Proofs.YtkghpmpmcafhkaaGreatDoor
set_option maxHeartbeats 4000000
open Go.RowKit
theorem escOne_len (v : Bool) (l : List UInt8) : (escOne v l).length ≤ 6 := by
  unfold escOne
  split
  · simp
  · cases h : escT (Lib.decodeL l).1 v with
    | none =>
      show (l.take (Lib.decodeL l).2).length ≤ 6
      have : (Lib.decodeL l).2 ≤ 4 := by
        rw [Lib.decodeL_N]
        unfold Lib.decodeN
        (repeat' split)
        all_goals simp
      rw [List.length_take]
      omega
    | some t =>
      show t.length ≤ 6
      unfold escT at h
      repeat' split at h
      all_goals first | cases h | skip
      all_goals simp
end Go.Proofs.YtkghpmpmcafhkaaGreatDoor
namespace Go.Proofs.YtkghpmpmcafhkaaGreatDoor
set_option maxHeartbeats 4000000
open Go.RowKit
theorem dec_drop (s : ByteArray) (pos : Nat) : Utf8.decode s pos = Lib.decodeL (s.data.toList.drop pos) := by
  rw [Lib.decode_N, Lib.decodeL_N, List.length_drop]
  simp only [List.getD_eq_getElem?_getD, List.getElem?_drop, Nat.add_zero]
theorem drop_ne {s : ByteArray} {pos : Nat} (h : pos < s.size) : s.data.toList.drop pos ≠ [] := by
  intro e
  have := congrArg List.length e
  rw [List.length_drop, List.length_nil] at this
  have h2 : s.data.toList.length = s.size := Array.length_toList
  omega
theorem esc_at {v : Bool} {s : ByteArray} {pos : Nat} (h : pos < s.size) : escF v (s.data.toList.drop pos) = escOne v (s.data.toList.drop pos) ++ escF v (s.data.toList.drop (pos + (Utf8.decode s pos).2)) := by
  rw [escF_step v _ (drop_ne h), List.drop_drop, dec_drop]
theorem run_nil (n : Nat) : runGo n [] = true := by
  cases n with
  | zero => rfl
  | succ n => unfold runGo; rw [if_pos rfl]
theorem run_at {s : ByteArray} {pos n : Nat} (h : pos < s.size) : runGo (n + 1) (s.data.toList.drop pos) = if mayB (Utf8.decode s pos).1 = false then false else runGo n (s.data.toList.drop (pos + (Utf8.decode s pos).2)) := by
  conv => lhs; unfold runGo
  rw [if_neg (drop_ne h), List.drop_drop, dec_drop]
theorem bad_dec {s : ByteArray} {pos : Nat} : badB (s.data.toList.drop pos) = ((Utf8.decode s pos).1 == 65533 && (Utf8.decode s pos).2 == 1) := by
  unfold badB
  rw [dec_drop]
theorem esc_self {v : Bool} {s : ByteArray} {pos : Nat} (h : pos < s.size) (hb : badB (s.data.toList.drop pos) = false) (hm : mayB (Utf8.decode s pos).1 = true) (ht : escT (Utf8.decode s pos).1 v = none) : escOne v (s.data.toList.drop pos) = Lib.encodeRune ((Utf8.decode s pos).1 : Int) := by
  unfold escOne
  rw [dec_drop] at hm ht ⊢
  rw [if_neg (by simp [hb, hm]), ht]
  refine (Lib.encode_decode _ (drop_ne h) ?_).symm
  intro hh
  unfold badB at hb
  rw [hh.1, hh.2] at hb
  cases hb
theorem esc_by {v : Bool} {s : ByteArray} {pos : Nat} {t : List UInt8} (hb : badB (s.data.toList.drop pos) = false) (hm : mayB (Utf8.decode s pos).1 = true) (ht : escT (Utf8.decode s pos).1 v = some t) : escOne v (s.data.toList.drop pos) = t := by
  unfold escOne
  rw [dec_drop] at hm ht
  rw [if_neg (by simp [hb, hm]), ht]
  rfl
theorem esc_off {v : Bool} {s : ByteArray} {pos : Nat} (h : badB (s.data.toList.drop pos) = true ∨ mayB (Utf8.decode s pos).1 = false) : escOne v (s.data.toList.drop pos) = [] := by
  unfold escOne
  rw [dec_drop] at h
  rw [if_pos h]
end Go.Proofs.YtkghpmpmcafhkaaGreatDoor
