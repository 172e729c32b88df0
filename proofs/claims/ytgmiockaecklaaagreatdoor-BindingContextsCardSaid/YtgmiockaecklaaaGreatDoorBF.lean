/-
  ScopeP: contexts, plainly: which are right, which are open; their children. No program.
  ScopeR: which activities are right, as the document says it.
  ScopeW: the walks of package scope: which contexts are right, which are open.
-/
import Derived.Test.YtgmiockaecklaaaGreatDoorBE
import Derived.Test.YtgmiockaecklaaaGreatDoorBB
import Derived.IntWalk
namespace Go.Proofs.YtgmiockaecklaaaGreatDoor
open Go.RowKit Ieee

theorem del_small {x : Nat} (h : x ≤ infR) : isDel x = true := by
  unfold isDel
  rw [nan_small h]
  unfold infR at h
  simp; omega
theorem plain_small {x : Nat} (h : x ≤ infR) : plainN x = x := by
  unfold plainN
  rw [nan_small h, if_neg (by decide), if_neg (by unfold infR at h; omega)]
theorem key_plain {x : Nat} (h : isDel x = true) : key x = (plainN x : Int) ∧ isNan x = false := by
  unfold isDel at h
  simp only [Bool.and_eq_true, Bool.not_eq_true', Bool.or_eq_true, decide_eq_true_eq] at h
  obtain ⟨hn, hc⟩ := h
  refine ⟨?_, hn⟩
  unfold plainN
  rw [if_neg (by rw [hn]; decide)]
  rcases hc with hc | hc
  · rw [if_neg (by omega)]
    unfold key fneg rung
    rw [if_neg (by rw [show x / 9223372036854775808 = 0 by omega]; decide), show x % 9223372036854775808 = x by omega]
  · subst hc; decide
/-- a time in its plain form -/
def okF (x : Nat) : Bool := decide (x ≤ infR)
theorem okF_yes {x : Nat} (h : okF x = true) : x ≤ infR := by simpa [okF] using h
theorem okF_is {x : Nat} (hx : x < 18446744073709551616) : (isDel x && (plainN x == x)) = okF x := by
  rw [Bool.eq_iff_iff]
  constructor
  · intro h
    rw [Bool.and_eq_true, beq_iff_eq] at h
    have := plain_le h.1
    rw [h.2] at this
    simpa [okF] using this
  · intro h
    have h := okF_yes h
    rw [Bool.and_eq_true, beq_iff_eq]
    exact ⟨del_small h, plain_small h⟩
structure Ctx where
  n : Int
  s : Int
  o : Int
  d : Int
  x : Nat
def Ctx.wf (c : Ctx) : Prop := (-9223372036854775808 ≤ c.n ∧ c.n ≤ 9223372036854775807) ∧ (-9223372036854775808 ≤ c.s ∧ c.s ≤ 9223372036854775807) ∧ (-9223372036854775808 ≤ c.o ∧ c.o ≤ 9223372036854775807) ∧ (-9223372036854775808 ≤ c.d ∧ c.d ≤ 9223372036854775807) ∧ c.x < 18446744073709551616
def ctxA (c : Ctx) : Array Value := #[.int .i64 c.n, .int .i64 c.s, .int .i64 c.o, .int .i64 c.d, .float .f64 c.x]
def ctxV (c : Ctx) : Value := .agg (ctxA c)
def ctx0 : Ctx := ⟨0, 0, 0, 0, 0⟩
def isOut (o : Int) : Bool := (o == 1) || (o == 2)
def actB (x y : Int) : Bool := (actT x y).isSome
def rightC (c : Ctx) : Bool := okF c.x && actB c.n c.s && isOut c.o && (decide (0 ≤ c.d) && decide (c.d ≤ 3))
def openC (c : Ctx) (now : Nat) : Bool := rightC c && (isDel now && decide (plainN now < c.x))
def newE (n s o : Int) (now lasts : Nat) : Nat := if actB n s then if bothDel now lasts && isOut o then 0 else 4 else 1
def newC (n s o : Int) (now lasts : Nat) : Ctx := if newE n s o now lasts = 0 then ⟨n, s, o, 0, addN (plainN now) (plainN lasts)⟩ else ctx0
def childE (c : Ctx) (n s o : Int) : Nat := if rightC c then if actB n s then if isOut o then if c.d = 3 then 11 else 0 else 4 else 1 else 4
def childC (c : Ctx) (n s o : Int) : Ctx := if childE c n s o = 0 then ⟨n, s, o, c.d + 1, c.x⟩ else ctx0
theorem del_form {x : Nat} (h : isDel x = true) : (x < 9223372036854775808 ∧ plainN x = x ∧ place x = (x : Int)) ∨ (x = 9223372036854775808 ∧ plainN x = 0 ∧ place x = -1) := by
  have hk := (key_plain h).2
  have h2 := h
  unfold isDel at h2
  rw [hk] at h2
  simp only [Bool.not_false, Bool.true_and, Bool.or_eq_true, decide_eq_true_eq] at h2
  rcases h2 with h2 | h2
  · refine .inl ⟨h2, ?_, ?_⟩
    · unfold plainN; rw [if_neg (by rw [hk]; decide), if_neg (by omega)]
    · rw [place_num hk, if_neg (by omega)]
  · subst h2
    exact .inr ⟨rfl, by decide, by decide⟩
theorem flt_ok {a x : Nat} (ha : isDel a = true) (hx : x ≤ infR) : flt a x = decide (plainN a < x) := by
  rw [flt_eq, (key_plain ha).1, (key_plain ha).2, nan_small hx, key_small hx]
  simp
theorem open_mono {c : Ctx} {a b : Nat} (hp : place a ≤ place b) (hd : isDel a = true) (h : openC c b = true) : openC c a = true := by
  unfold openC at *
  simp only [Bool.and_eq_true, decide_eq_true_eq] at *
  obtain ⟨hr, hdb, hlt⟩ := h
  refine ⟨hr, hd, ?_⟩
  rcases del_form hd with ⟨_, h2, h3⟩ | ⟨_, h2, h3⟩ <;> rcases del_form hdb with ⟨_, h5, h6⟩ | ⟨_, h5, h6⟩ <;> omega
end Go.Proofs.YtgmiockaecklaaaGreatDoor

namespace Go.Proofs.YtgmiockaecklaaaGreatDoor
open Go.RowKit Go.Extern.Stop Go.Stop Go.Extern

theorem actT_isSome (x y : Int) : (actT x y).isSome = (decide (0 ≤ x) && decide (x < 4) && decide (0 ≤ y) && decide (y < 1000000)) := by
  unfold actT numT
  by_cases h1 : 0 ≤ x ∧ x ≤ 3
  · rw [if_pos h1]
    by_cases h2 : 0 ≤ y ∧ y ≤ 999999
    · rw [if_pos h2]
      simp only [Option.bind_some, Option.map_some, Option.isSome_some]
      symm
      simp only [Bool.and_eq_true, decide_eq_true_eq]
      omega
    · rw [if_neg h2]
      symm
      simp only [Option.bind_some, Option.map_none, Option.isSome_none, Bool.and_eq_false_iff, decide_eq_false_iff_not]
      omega
  · rw [if_neg h1]
    symm
    simp only [Option.bind_none, Option.isSome_none, Bool.and_eq_false_iff, decide_eq_false_iff_not]
    omega
theorem refright_any (x y : Int) (w : World) : Calls Tryz.prog 27 #[actV x y] w fun e w' => e = .returned (.bool (actT x y).isSome) ∧ Below w.heap.size w w' := by
  have HX := Lib.hid (actT_isSome x y)
  have hn := Blk.new w 23 #[.int .i64 x, .int .i64 y]
  have HB := Lib.hid (below_alloc1 w (.cells #[.int .i64 x, .int .i64 y] 23))
  have c0 := (hn.cell 0).trans rfl
  have c1 := (hn.cell 1).trans rfl
  clear hn
  unfold actV
  generalize ho : (actT x y).isSome = o at *
  clear ho
  cases h1 : decide (0 ≤ x) <;> cases h2 : decide (x < 4) <;> cases h3 : decide (0 ≤ y) <;> cases h4 : decide (y < 1000000) <;> rw [h1, h2, h3, h4] at HX
  all_goals
    obtain rfl : o = _ := HX.out
    clear HX
    go_enter Tryz.func27, Tryz.ntmps27
    go_wp2_with fail
    go_ret
    exact ⟨rfl, HB.out⟩
end Go.Proofs.YtgmiockaecklaaaGreatDoor

namespace Go.Proofs.YtgmiockaecklaaaGreatDoor
open Go.RowKit Go.Extern.Stop Go.Stop Go.Extern Ieee
attribute [local go_sem] flt_def fgt_def feq_def fne_def

theorem isout_any (o : Int) (w : World) : Calls Tryz.prog 55 #[.int .i64 o] w fun e w' => e = .returned (.bool (isOut o)) ∧ Below w.heap.size w w' := by
  unfold isOut
  cases h1 : (o == 1) <;> cases h2 : (o == 2)
  all_goals
    go_enter Tryz.func55, Tryz.ntmps55
    go_wp2_with fail
    go_ret
    exact ⟨rfl, Below.refl _ _⟩
theorem ord_zero {x : Nat} (h : isDel x = true) : (cmpI (place (plainN x)) (place x) == 0) = okF x := by
  rcases del_form h with ⟨h1, h2, h3⟩ | ⟨h1, h2, h3⟩
  · have := plain_le h
    rw [h2] at this ⊢
    unfold cmpI okF
    rw [if_neg (by omega), if_neg (by omega), decide_eq_true this]; rfl
  · rw [h2, h1]; decide
theorem okF_del {x : Nat} (h : isDel x = false) : okF x = false := by
  cases hf : okF x with
  | false => rfl
  | true => rw [del_small (okF_yes hf)] at h; cases h
set_option maxRecDepth 20000 in
set_option maxHeartbeats 2000000 in
theorem sright_any (n s o d : Int) (x : Nat) (hn : -9223372036854775808 ≤ n) (hs : -9223372036854775808 ≤ s) (hx : x < 18446744073709551616) (w : World) (E : Nat → Addr) (h : IdsG w E) :
    Calls Tryz.prog 16 #[.agg #[.int .i64 n, .int .i64 s, .int .i64 o, .int .i64 d, .float .f64 x]] w fun e w' => e = .returned (.bool (rightC ⟨n, s, o, d, x⟩)) ∧ Below w.heap.size w w' := by
  have HR := Lib.hid (show rightC ⟨n, s, o, d, x⟩ = (okF x && actB n s && isOut o && (decide (0 ≤ d) && decide (d ≤ 3))) from rfl)
  have HG := Lib.hid (fun w' (hb : Below w.heap.size w w') => h.below hb)
  have HD := Lib.hid (fun w' (h : Errs w' E) => delay_any x hx w' E (h.on [0, 3] (by decide)))
  have HA := Lib.hid (fun w' h => right_any w' E n s hn hs h)
  generalize rightC ⟨n, s, o, d, x⟩ = r at *
  have B := Lib.hid (below_alloc1 w (.cells #[.int .i64 n, .int .i64 s, .int .i64 o, .int .i64 d, .float .f64 x] 26))
  have N := Lib.hid (Blk.new w 26 #[.int .i64 n, .int .i64 s, .int .i64 o, .int .i64 d, .float .f64 x])
  have c0 := (N.out.cell 0).trans rfl
  have c1 := (N.out.cell 1).trans rfl
  have c2 := (N.out.cell 2).trans rfl
  have c3 := (N.out.cell 3).trans rfl
  have c4 := (N.out.cell 4).trans rfl
  clear h
  cases hd : isDel x
  · have hf := okF_del hd
    clear hn hs HA
    go_enter Tryz.func16, Tryz.ntmps16
    go_wp2_with fail
    refine (HD.out _ (HG.out _ B.out).errs).mono ?_
    rintro e w' ⟨rfl, hb⟩
    unfold delV
    rw [(del_no hd).1, (del_no hd).2, errV_four]
    have B' := Lib.hid (B.out.trans (hb.mono B.out.size))
    have N' := Lib.hid (N.out.below hb N.out.lt)
    clear c0 c1 c2 c3 c4 hb B N
    have c0 := (N'.out.cell 0).trans rfl
    have c1 := (N'.out.cell 1).trans rfl
    have c2 := (N'.out.cell 2).trans rfl
    have c3 := (N'.out.cell 3).trans rfl
    have c4 := (N'.out.cell 4).trans rfl
    have B := Lib.hid B'.out
    have N := Lib.hid N'.out
    clear B' N'
    go_wp2_with fail
    go_ret
    exact ⟨by rw [HR.out, hf]; rfl, B.out⟩
  · have hp : plainN x < 18446744073709551616 := by have := plain_le hd; unfold infR at this; omega
    have HO := Lib.hid (fun w' => order_any (plainN x) x hp hx w')
    have hq := ord_zero hd
    have e1 := (del_yes hd).1
    have e2 := (del_yes hd).2
    unfold actV at HA
    clear hn hs hp hd hx
    generalize cmpI (place (plainN x)) (place x) = q at *
    generalize plainN x = y at *
    cases hf : okF x
    · rw [hf] at hq
      go_enter Tryz.func16, Tryz.ntmps16
      go_wp2_with fail
      refine (HD.out _ (HG.out _ B.out).errs).mono ?_
      rintro e w' ⟨rfl, hb⟩
      unfold delV
      rw [e1, e2, errV_zero]
      have B' := Lib.hid (B.out.trans (hb.mono B.out.size))
      have N' := Lib.hid (N.out.below hb N.out.lt)
      clear c0 c1 c2 c3 c4 hb B N
      have c0 := (N'.out.cell 0).trans rfl
      have c1 := (N'.out.cell 1).trans rfl
      have c2 := (N'.out.cell 2).trans rfl
      have c3 := (N'.out.cell 3).trans rfl
      have c4 := (N'.out.cell 4).trans rfl
      have B := Lib.hid B'.out
      have N := Lib.hid N'.out
      clear B' N'
      go_wp2_with fail
      refine (HO.out _).mono ?_
      rintro e w' ⟨rfl, hb⟩
      have B' := Lib.hid (B.out.trans (hb.mono B.out.size))
      have N' := Lib.hid (N.out.below hb N.out.lt)
      clear c0 c1 c2 c3 c4 hb B N
      have c0 := (N'.out.cell 0).trans rfl
      have c1 := (N'.out.cell 1).trans rfl
      have c2 := (N'.out.cell 2).trans rfl
      have c3 := (N'.out.cell 3).trans rfl
      have c4 := (N'.out.cell 4).trans rfl
      have B := Lib.hid B'.out
      have N := Lib.hid N'.out
      clear B' N'
      go_wp2_with fail
      go_ret
      exact ⟨by rw [HR.out, hf]; rfl, B.out⟩
    · rw [hf] at hq
      cases ha : actB n s <;> cases ho : isOut o <;> cases h3 : decide (0 ≤ d) <;> cases h4 : decide (d ≤ 3) <;> rw [hf, ha, ho, h3, h4] at HR
      all_goals
        unfold actB at ha
        rw [ha] at HA
        obtain rfl : r = _ := HR.out
        clear HR
        have HI := Lib.hid (fun w' => isout_any o w')
        rw [ho] at HI
        go_enter Tryz.func16, Tryz.ntmps16
        go_wp2_with (first
          | (go_at_call 52; refine (HD.out _ (HG.out _ B.out).errs).mono ?_; rintro e w' ⟨rfl, hb⟩; unfold delV; rw [e1, e2, errV_zero]; have B' := Lib.hid (B.out.trans (hb.mono B.out.size)); have N' := Lib.hid (N.out.below hb N.out.lt); clear c0 c1 c2 c3 c4 hb B N; have c0 := (N'.out.cell 0).trans rfl; have c1 := (N'.out.cell 1).trans rfl; have c2 := (N'.out.cell 2).trans rfl; have c3 := (N'.out.cell 3).trans rfl; have c4 := (N'.out.cell 4).trans rfl; have B := Lib.hid B'.out; have N := Lib.hid N'.out; clear B' N')
          | (go_at_call 53; refine (HO.out _).mono ?_; rintro e w' ⟨rfl, hb⟩; have B' := Lib.hid (B.out.trans (hb.mono B.out.size)); have N' := Lib.hid (N.out.below hb N.out.lt); clear c0 c1 c2 c3 c4 hb B N; have c0 := (N'.out.cell 0).trans rfl; have c1 := (N'.out.cell 1).trans rfl; have c2 := (N'.out.cell 2).trans rfl; have c3 := (N'.out.cell 3).trans rfl; have c4 := (N'.out.cell 4).trans rfl; have B := Lib.hid B'.out; have N := Lib.hid N'.out; clear B' N')
          | (go_at_call 54; refine (HA.out _ (HG.out _ B.out)).mono ?_; rintro e w' ⟨rfl, hb⟩; have B' := Lib.hid (B.out.trans (hb.mono B.out.size)); have N' := Lib.hid (N.out.below hb N.out.lt); clear c0 c1 c2 c3 c4 hb B N; have c0 := (N'.out.cell 0).trans rfl; have c1 := (N'.out.cell 1).trans rfl; have c2 := (N'.out.cell 2).trans rfl; have c3 := (N'.out.cell 3).trans rfl; have c4 := (N'.out.cell 4).trans rfl; have B := Lib.hid B'.out; have N := Lib.hid N'.out; clear B' N')
          | (go_at_call 55; refine (HI.out _).mono ?_; rintro e w' ⟨rfl, hb⟩; have B' := Lib.hid (B.out.trans (hb.mono B.out.size)); have N' := Lib.hid (N.out.below hb N.out.lt); clear c0 c1 c2 c3 c4 hb B N; have c0 := (N'.out.cell 0).trans rfl; have c1 := (N'.out.cell 1).trans rfl; have c2 := (N'.out.cell 2).trans rfl; have c3 := (N'.out.cell 3).trans rfl; have c4 := (N'.out.cell 4).trans rfl; have B := Lib.hid B'.out; have N := Lib.hid N'.out; clear B' N'))
        go_ret
        exact ⟨rfl, B.out⟩
end Go.Proofs.YtgmiockaecklaaaGreatDoor
