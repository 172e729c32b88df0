/-
  ScopeP: contexts, plainly: which are right, which are open; their children. No program.
-/
import Derived.Test.YtejdnpbkljdahaaDoorFltLater
import Derived.Test.YtejdnpbkljdahaaDoorIdsP
namespace Go.Proofs.YtejdnpbkljdahaaDoor
open Go.RowKit Ieee

theorem del_small {x : Nat} (h : x ≤ infR) : isDel x = true := by
  unfold isDel
  rw [nan_small h]
  unfold infR at h
  simp; omega
theorem plain_small {x : Nat} (h : x ≤ infR) : plainN x = x := by
  unfold plainN
  rw [nan_small h, if_neg (by decide), if_neg (by unfold infR at h; omega)]
theorem key_plain {x : Nat} (h : isDel x = true) : key x = (plainN x : Int) ∧ isNan x = false := by
  unfold isDel at h
  simp only [Bool.and_eq_true, Bool.not_eq_true', Bool.or_eq_true, decide_eq_true_eq] at h
  obtain ⟨hn, hc⟩ := h
  refine ⟨?_, hn⟩
  unfold plainN
  rw [if_neg (by rw [hn]; decide)]
  rcases hc with hc | hc
  · rw [if_neg (by omega)]
    unfold key fneg rung
    rw [if_neg (by rw [show x / 9223372036854775808 = 0 by omega]; decide), show x % 9223372036854775808 = x by omega]
  · subst hc; decide
/-- a time in its plain form -/
def okF (x : Nat) : Bool := decide (x ≤ infR)
theorem okF_yes {x : Nat} (h : okF x = true) : x ≤ infR := by simpa [okF] using h
theorem okF_is {x : Nat} (hx : x < 18446744073709551616) : (isDel x && (plainN x == x)) = okF x := by
  rw [Bool.eq_iff_iff]
  constructor
  · intro h
    rw [Bool.and_eq_true, beq_iff_eq] at h
    have := plain_le h.1
    rw [h.2] at this
    simpa [okF] using this
  · intro h
    have h := okF_yes h
    rw [Bool.and_eq_true, beq_iff_eq]
    exact ⟨del_small h, plain_small h⟩
structure Ctx where
  n : Int
  s : Int
  o : Int
  d : Int
  x : Nat
def Ctx.wf (c : Ctx) : Prop := (-9223372036854775808 ≤ c.n ∧ c.n ≤ 9223372036854775807) ∧ (-9223372036854775808 ≤ c.s ∧ c.s ≤ 9223372036854775807) ∧ (-9223372036854775808 ≤ c.o ∧ c.o ≤ 9223372036854775807) ∧ (-9223372036854775808 ≤ c.d ∧ c.d ≤ 9223372036854775807) ∧ c.x < 18446744073709551616
def ctxA (c : Ctx) : Array Value := #[.int .i64 c.n, .int .i64 c.s, .int .i64 c.o, .int .i64 c.d, .float .f64 c.x]
def ctxV (c : Ctx) : Value := .agg (ctxA c)
def ctx0 : Ctx := ⟨0, 0, 0, 0, 0⟩
def isOut (o : Int) : Bool := (o == 1) || (o == 2)
def actB (x y : Int) : Bool := (actT x y).isSome
def rightC (c : Ctx) : Bool := okF c.x && actB c.n c.s && isOut c.o && (decide (0 ≤ c.d) && decide (c.d ≤ 3))
def openC (c : Ctx) (now : Nat) : Bool := rightC c && (isDel now && decide (plainN now < c.x))
def newE (n s o : Int) (now lasts : Nat) : Nat := if actB n s then if bothDel now lasts && isOut o then 0 else 4 else 1
def newC (n s o : Int) (now lasts : Nat) : Ctx := if newE n s o now lasts = 0 then ⟨n, s, o, 0, addN (plainN now) (plainN lasts)⟩ else ctx0
def childE (c : Ctx) (n s o : Int) : Nat := if rightC c then if actB n s then if isOut o then if c.d = 3 then 11 else 0 else 4 else 1 else 4
def childC (c : Ctx) (n s o : Int) : Ctx := if childE c n s o = 0 then ⟨n, s, o, c.d + 1, c.x⟩ else ctx0
theorem del_form {x : Nat} (h : isDel x = true) : (x < 9223372036854775808 ∧ plainN x = x ∧ place x = (x : Int)) ∨ (x = 9223372036854775808 ∧ plainN x = 0 ∧ place x = -1) := by
  have hk := (key_plain h).2
  have h2 := h
  unfold isDel at h2
  rw [hk] at h2
  simp only [Bool.not_false, Bool.true_and, Bool.or_eq_true, decide_eq_true_eq] at h2
  rcases h2 with h2 | h2
  · refine .inl ⟨h2, ?_, ?_⟩
    · unfold plainN; rw [if_neg (by rw [hk]; decide), if_neg (by omega)]
    · rw [place_num hk, if_neg (by omega)]
  · subst h2
    exact .inr ⟨rfl, by decide, by decide⟩
theorem flt_ok {a x : Nat} (ha : isDel a = true) (hx : x ≤ infR) : flt a x = decide (plainN a < x) := by
  rw [flt_eq, (key_plain ha).1, (key_plain ha).2, nan_small hx, key_small hx]
  simp
theorem open_mono {c : Ctx} {a b : Nat} (hp : place a ≤ place b) (hd : isDel a = true) (h : openC c b = true) : openC c a = true := by
  unfold openC at *
  simp only [Bool.and_eq_true, decide_eq_true_eq] at *
  obtain ⟨hr, hdb, hlt⟩ := h
  refine ⟨hr, hd, ?_⟩
  rcases del_form hd with ⟨_, h2, h3⟩ | ⟨_, h2, h3⟩ <;> rcases del_form hdb with ⟨_, h5, h6⟩ | ⟨_, h5, h6⟩ <;> omega
end Go.Proofs.YtejdnpbkljdahaaDoor
