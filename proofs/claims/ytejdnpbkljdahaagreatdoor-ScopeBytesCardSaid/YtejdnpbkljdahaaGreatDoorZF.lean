/-
  ScopeP: contexts, plainly: which are right, which are open; their children. No program.
  ScopeR: which activities are right, as the document says it.
  ScopeW: the walks of package scope: which contexts are right, which are open.
  ScopeO: which contexts are open: package scope's answer.
  ScopeN: package scope's new contexts.
  ScopeL: the laws of chapter 9: alive.
-/
import Derived.Test.YtejdnpbkljdahaaGreatDoorZE
import Derived.Test.YtejdnpbkljdahaaGreatDoorZB
import Derived.IntWalk
import Derived.Test.YtejdnpbkljdahaaGreatDoorZA
namespace Go.Proofs.YtejdnpbkljdahaaGreatDoor
open Go.RowKit Ieee

theorem del_small {x : Nat} (h : x ≤ infR) : isDel x = true := by
  unfold isDel
  rw [nan_small h]
  unfold infR at h
  simp; omega
theorem plain_small {x : Nat} (h : x ≤ infR) : plainN x = x := by
  unfold plainN
  rw [nan_small h, if_neg (by decide), if_neg (by unfold infR at h; omega)]
theorem key_plain {x : Nat} (h : isDel x = true) : key x = (plainN x : Int) ∧ isNan x = false := by
  unfold isDel at h
  simp only [Bool.and_eq_true, Bool.not_eq_true', Bool.or_eq_true, decide_eq_true_eq] at h
  obtain ⟨hn, hc⟩ := h
  refine ⟨?_, hn⟩
  unfold plainN
  rw [if_neg (by rw [hn]; decide)]
  rcases hc with hc | hc
  · rw [if_neg (by omega)]
    unfold key fneg rung
    rw [if_neg (by rw [show x / 9223372036854775808 = 0 by omega]; decide), show x % 9223372036854775808 = x by omega]
  · subst hc; decide
/-- a time in its plain form -/
def okF (x : Nat) : Bool := decide (x ≤ infR)
theorem okF_yes {x : Nat} (h : okF x = true) : x ≤ infR := by simpa [okF] using h
theorem okF_is {x : Nat} (hx : x < 18446744073709551616) : (isDel x && (plainN x == x)) = okF x := by
  rw [Bool.eq_iff_iff]
  constructor
  · intro h
    rw [Bool.and_eq_true, beq_iff_eq] at h
    have := plain_le h.1
    rw [h.2] at this
    simpa [okF] using this
  · intro h
    have h := okF_yes h
    rw [Bool.and_eq_true, beq_iff_eq]
    exact ⟨del_small h, plain_small h⟩
structure Ctx where
  n : Int
  s : Int
  o : Int
  d : Int
  x : Nat
def Ctx.wf (c : Ctx) : Prop := (-9223372036854775808 ≤ c.n ∧ c.n ≤ 9223372036854775807) ∧ (-9223372036854775808 ≤ c.s ∧ c.s ≤ 9223372036854775807) ∧ (-9223372036854775808 ≤ c.o ∧ c.o ≤ 9223372036854775807) ∧ (-9223372036854775808 ≤ c.d ∧ c.d ≤ 9223372036854775807) ∧ c.x < 18446744073709551616
def ctxA (c : Ctx) : Array Value := #[.int .i64 c.n, .int .i64 c.s, .int .i64 c.o, .int .i64 c.d, .float .f64 c.x]
def ctxV (c : Ctx) : Value := .agg (ctxA c)
def ctx0 : Ctx := ⟨0, 0, 0, 0, 0⟩
def isOut (o : Int) : Bool := (o == 1) || (o == 2)
def actB (x y : Int) : Bool := (actT x y).isSome
def rightC (c : Ctx) : Bool := okF c.x && actB c.n c.s && isOut c.o && (decide (0 ≤ c.d) && decide (c.d ≤ 3))
def openC (c : Ctx) (now : Nat) : Bool := rightC c && (isDel now && decide (plainN now < c.x))
def newE (n s o : Int) (now lasts : Nat) : Nat := if actB n s then if bothDel now lasts && isOut o then 0 else 4 else 1
def newC (n s o : Int) (now lasts : Nat) : Ctx := if newE n s o now lasts = 0 then ⟨n, s, o, 0, addN (plainN now) (plainN lasts)⟩ else ctx0
def childE (c : Ctx) (n s o : Int) : Nat := if rightC c then if actB n s then if isOut o then if c.d = 3 then 11 else 0 else 4 else 1 else 4
def childC (c : Ctx) (n s o : Int) : Ctx := if childE c n s o = 0 then ⟨n, s, o, c.d + 1, c.x⟩ else ctx0
theorem del_form {x : Nat} (h : isDel x = true) : (x < 9223372036854775808 ∧ plainN x = x ∧ place x = (x : Int)) ∨ (x = 9223372036854775808 ∧ plainN x = 0 ∧ place x = -1) := by
  have hk := (key_plain h).2
  have h2 := h
  unfold isDel at h2
  rw [hk] at h2
  simp only [Bool.not_false, Bool.true_and, Bool.or_eq_true, decide_eq_true_eq] at h2
  rcases h2 with h2 | h2
  · refine .inl ⟨h2, ?_, ?_⟩
    · unfold plainN; rw [if_neg (by rw [hk]; decide), if_neg (by omega)]
    · rw [place_num hk, if_neg (by omega)]
  · subst h2
    exact .inr ⟨rfl, by decide, by decide⟩
theorem flt_ok {a x : Nat} (ha : isDel a = true) (hx : x ≤ infR) : flt a x = decide (plainN a < x) := by
  rw [flt_eq, (key_plain ha).1, (key_plain ha).2, nan_small hx, key_small hx]
  simp
theorem open_mono {c : Ctx} {a b : Nat} (hp : place a ≤ place b) (hd : isDel a = true) (h : openC c b = true) : openC c a = true := by
  unfold openC at *
  simp only [Bool.and_eq_true, decide_eq_true_eq] at *
  obtain ⟨hr, hdb, hlt⟩ := h
  refine ⟨hr, hd, ?_⟩
  rcases del_form hd with ⟨_, h2, h3⟩ | ⟨_, h2, h3⟩ <;> rcases del_form hdb with ⟨_, h5, h6⟩ | ⟨_, h5, h6⟩ <;> omega
end Go.Proofs.YtejdnpbkljdahaaGreatDoor

namespace Go.Proofs.YtejdnpbkljdahaaGreatDoor
open Go.RowKit Go.Extern.Stop Go.Stop Go.Extern

theorem actT_isSome (x y : Int) : (actT x y).isSome = (decide (0 ≤ x) && decide (x < 4) && decide (0 ≤ y) && decide (y < 1000000)) := by
  unfold actT numT
  by_cases h1 : 0 ≤ x ∧ x ≤ 3
  · rw [if_pos h1]
    by_cases h2 : 0 ≤ y ∧ y ≤ 999999
    · rw [if_pos h2]
      simp only [Option.bind_some, Option.map_some, Option.isSome_some]
      symm
      simp only [Bool.and_eq_true, decide_eq_true_eq]
      omega
    · rw [if_neg h2]
      symm
      simp only [Option.bind_some, Option.map_none, Option.isSome_none, Bool.and_eq_false_iff, decide_eq_false_iff_not]
      omega
  · rw [if_neg h1]
    symm
    simp only [Option.bind_none, Option.isSome_none, Bool.and_eq_false_iff, decide_eq_false_iff_not]
    omega
theorem refright_any (x y : Int) (w : World) : Calls Tryz.prog 24 #[actV x y] w fun e w' => e = .returned (.bool (actT x y).isSome) ∧ Below w.heap.size w w' := by
  have HX := Lib.hid (actT_isSome x y)
  have hn := Blk.new w 23 #[.int .i64 x, .int .i64 y]
  have HB := Lib.hid (below_alloc1 w (.cells #[.int .i64 x, .int .i64 y] 23))
  have c0 := (hn.cell 0).trans rfl
  have c1 := (hn.cell 1).trans rfl
  clear hn
  unfold actV
  generalize ho : (actT x y).isSome = o at *
  clear ho
  cases h1 : decide (0 ≤ x) <;> cases h2 : decide (x < 4) <;> cases h3 : decide (0 ≤ y) <;> cases h4 : decide (y < 1000000) <;> rw [h1, h2, h3, h4] at HX
  all_goals
    obtain rfl : o = _ := HX.out
    clear HX
    go_enter Tryz.func24, Tryz.ntmps24
    go_wp2_with fail
    go_ret
    exact ⟨rfl, HB.out⟩
end Go.Proofs.YtejdnpbkljdahaaGreatDoor

namespace Go.Proofs.YtejdnpbkljdahaaGreatDoor
open Go.RowKit Go.Extern.Stop Go.Stop Go.Extern Ieee
attribute [local go_sem] flt_def fgt_def feq_def fne_def

theorem isout_any (o : Int) (w : World) : Calls Tryz.prog 43 #[.int .i64 o] w fun e w' => e = .returned (.bool (isOut o)) ∧ Below w.heap.size w w' := by
  unfold isOut
  cases h1 : (o == 1) <;> cases h2 : (o == 2)
  all_goals
    go_enter Tryz.func43, Tryz.ntmps43
    go_wp2_with fail
    go_ret
    exact ⟨rfl, Below.refl _ _⟩
theorem ord_zero {x : Nat} (h : isDel x = true) : (cmpI (place (plainN x)) (place x) == 0) = okF x := by
  rcases del_form h with ⟨h1, h2, h3⟩ | ⟨h1, h2, h3⟩
  · have := plain_le h
    rw [h2] at this ⊢
    unfold cmpI okF
    rw [if_neg (by omega), if_neg (by omega), decide_eq_true this]; rfl
  · rw [h2, h1]; decide
theorem okF_del {x : Nat} (h : isDel x = false) : okF x = false := by
  cases hf : okF x with
  | false => rfl
  | true => rw [del_small (okF_yes hf)] at h; cases h
set_option maxRecDepth 20000 in
set_option maxHeartbeats 2000000 in
theorem sright_any (n s o d : Int) (x : Nat) (hn : -9223372036854775808 ≤ n) (hs : -9223372036854775808 ≤ s) (hx : x < 18446744073709551616) (w : World) (E : Nat → Addr) (h : IdsG w E) :
    Calls Tryz.prog 16 #[.agg #[.int .i64 n, .int .i64 s, .int .i64 o, .int .i64 d, .float .f64 x]] w fun e w' => e = .returned (.bool (rightC ⟨n, s, o, d, x⟩)) ∧ Below w.heap.size w w' := by
  have HR := Lib.hid (show rightC ⟨n, s, o, d, x⟩ = (okF x && actB n s && isOut o && (decide (0 ≤ d) && decide (d ≤ 3))) from rfl)
  have HG := Lib.hid (fun w' (hb : Below w.heap.size w w') => h.below hb)
  have HD := Lib.hid (fun w' (h : Errs w' E) => delay_any x hx w' E (h.on [0, 3] (by decide)))
  have HA := Lib.hid (fun w' h => right_any w' E n s hn hs h)
  generalize rightC ⟨n, s, o, d, x⟩ = r at *
  have B := Lib.hid (below_alloc1 w (.cells #[.int .i64 n, .int .i64 s, .int .i64 o, .int .i64 d, .float .f64 x] 26))
  have N := Lib.hid (Blk.new w 26 #[.int .i64 n, .int .i64 s, .int .i64 o, .int .i64 d, .float .f64 x])
  have c0 := (N.out.cell 0).trans rfl
  have c1 := (N.out.cell 1).trans rfl
  have c2 := (N.out.cell 2).trans rfl
  have c3 := (N.out.cell 3).trans rfl
  have c4 := (N.out.cell 4).trans rfl
  clear h
  cases hd : isDel x
  · have hf := okF_del hd
    clear hn hs HA
    go_enter Tryz.func16, Tryz.ntmps16
    go_wp2_with fail
    refine (HD.out _ (HG.out _ B.out).errs).mono ?_
    rintro e w' ⟨rfl, hb⟩
    unfold delV
    rw [(del_no hd).1, (del_no hd).2, errV_four]
    have B' := Lib.hid (B.out.trans (hb.mono B.out.size))
    have N' := Lib.hid (N.out.below hb N.out.lt)
    clear c0 c1 c2 c3 c4 hb B N
    have c0 := (N'.out.cell 0).trans rfl
    have c1 := (N'.out.cell 1).trans rfl
    have c2 := (N'.out.cell 2).trans rfl
    have c3 := (N'.out.cell 3).trans rfl
    have c4 := (N'.out.cell 4).trans rfl
    have B := Lib.hid B'.out
    have N := Lib.hid N'.out
    clear B' N'
    go_wp2_with fail
    go_ret
    exact ⟨by rw [HR.out, hf]; rfl, B.out⟩
  · have hp : plainN x < 18446744073709551616 := by have := plain_le hd; unfold infR at this; omega
    have HO := Lib.hid (fun w' => order_any (plainN x) x hp hx w')
    have hq := ord_zero hd
    have e1 := (del_yes hd).1
    have e2 := (del_yes hd).2
    unfold actV at HA
    clear hn hs hp hd hx
    generalize cmpI (place (plainN x)) (place x) = q at *
    generalize plainN x = y at *
    cases hf : okF x
    · rw [hf] at hq
      go_enter Tryz.func16, Tryz.ntmps16
      go_wp2_with fail
      refine (HD.out _ (HG.out _ B.out).errs).mono ?_
      rintro e w' ⟨rfl, hb⟩
      unfold delV
      rw [e1, e2, errV_zero]
      have B' := Lib.hid (B.out.trans (hb.mono B.out.size))
      have N' := Lib.hid (N.out.below hb N.out.lt)
      clear c0 c1 c2 c3 c4 hb B N
      have c0 := (N'.out.cell 0).trans rfl
      have c1 := (N'.out.cell 1).trans rfl
      have c2 := (N'.out.cell 2).trans rfl
      have c3 := (N'.out.cell 3).trans rfl
      have c4 := (N'.out.cell 4).trans rfl
      have B := Lib.hid B'.out
      have N := Lib.hid N'.out
      clear B' N'
      go_wp2_with fail
      refine (HO.out _).mono ?_
      rintro e w' ⟨rfl, hb⟩
      have B' := Lib.hid (B.out.trans (hb.mono B.out.size))
      have N' := Lib.hid (N.out.below hb N.out.lt)
      clear c0 c1 c2 c3 c4 hb B N
      have c0 := (N'.out.cell 0).trans rfl
      have c1 := (N'.out.cell 1).trans rfl
      have c2 := (N'.out.cell 2).trans rfl
      have c3 := (N'.out.cell 3).trans rfl
      have c4 := (N'.out.cell 4).trans rfl
      have B := Lib.hid B'.out
      have N := Lib.hid N'.out
      clear B' N'
      go_wp2_with fail
      go_ret
      exact ⟨by rw [HR.out, hf]; rfl, B.out⟩
    · rw [hf] at hq
      cases ha : actB n s <;> cases ho : isOut o <;> cases h3 : decide (0 ≤ d) <;> cases h4 : decide (d ≤ 3) <;> rw [hf, ha, ho, h3, h4] at HR
      all_goals
        unfold actB at ha
        rw [ha] at HA
        obtain rfl : r = _ := HR.out
        clear HR
        have HI := Lib.hid (fun w' => isout_any o w')
        rw [ho] at HI
        go_enter Tryz.func16, Tryz.ntmps16
        go_wp2_with (first
          | (go_at_call 45; refine (HD.out _ (HG.out _ B.out).errs).mono ?_; rintro e w' ⟨rfl, hb⟩; unfold delV; rw [e1, e2, errV_zero]; have B' := Lib.hid (B.out.trans (hb.mono B.out.size)); have N' := Lib.hid (N.out.below hb N.out.lt); clear c0 c1 c2 c3 c4 hb B N; have c0 := (N'.out.cell 0).trans rfl; have c1 := (N'.out.cell 1).trans rfl; have c2 := (N'.out.cell 2).trans rfl; have c3 := (N'.out.cell 3).trans rfl; have c4 := (N'.out.cell 4).trans rfl; have B := Lib.hid B'.out; have N := Lib.hid N'.out; clear B' N')
          | (go_at_call 46; refine (HO.out _).mono ?_; rintro e w' ⟨rfl, hb⟩; have B' := Lib.hid (B.out.trans (hb.mono B.out.size)); have N' := Lib.hid (N.out.below hb N.out.lt); clear c0 c1 c2 c3 c4 hb B N; have c0 := (N'.out.cell 0).trans rfl; have c1 := (N'.out.cell 1).trans rfl; have c2 := (N'.out.cell 2).trans rfl; have c3 := (N'.out.cell 3).trans rfl; have c4 := (N'.out.cell 4).trans rfl; have B := Lib.hid B'.out; have N := Lib.hid N'.out; clear B' N')
          | (go_at_call 41; refine (HA.out _ (HG.out _ B.out)).mono ?_; rintro e w' ⟨rfl, hb⟩; have B' := Lib.hid (B.out.trans (hb.mono B.out.size)); have N' := Lib.hid (N.out.below hb N.out.lt); clear c0 c1 c2 c3 c4 hb B N; have c0 := (N'.out.cell 0).trans rfl; have c1 := (N'.out.cell 1).trans rfl; have c2 := (N'.out.cell 2).trans rfl; have c3 := (N'.out.cell 3).trans rfl; have c4 := (N'.out.cell 4).trans rfl; have B := Lib.hid B'.out; have N := Lib.hid N'.out; clear B' N')
          | (go_at_call 43; refine (HI.out _).mono ?_; rintro e w' ⟨rfl, hb⟩; have B' := Lib.hid (B.out.trans (hb.mono B.out.size)); have N' := Lib.hid (N.out.below hb N.out.lt); clear c0 c1 c2 c3 c4 hb B N; have c0 := (N'.out.cell 0).trans rfl; have c1 := (N'.out.cell 1).trans rfl; have c2 := (N'.out.cell 2).trans rfl; have c3 := (N'.out.cell 3).trans rfl; have c4 := (N'.out.cell 4).trans rfl; have B := Lib.hid B'.out; have N := Lib.hid N'.out; clear B' N'))
        go_ret
        exact ⟨rfl, B.out⟩
end Go.Proofs.YtejdnpbkljdahaaGreatDoor

namespace Go.Proofs.YtejdnpbkljdahaaGreatDoor
open Go.RowKit Go.Extern.Stop Go.Stop Go.Extern Ieee
attribute [local go_sem] flt_def fgt_def feq_def fne_def

theorem right_x {c : Ctx} (h : rightC c = true) : c.x ≤ infR := by
  unfold rightC at h
  simp only [Bool.and_eq_true] at h
  exact okF_yes h.1.1.1
set_option maxRecDepth 20000 in
set_option maxHeartbeats 2000000 in
theorem sopen_any (n s o d : Int) (x now : Nat) (hn : -9223372036854775808 ≤ n) (hs : -9223372036854775808 ≤ s) (hx : x < 18446744073709551616) (ht : now < 18446744073709551616) (w : World) (E : Nat → Addr) (h : IdsG w E) :
    Calls Tryz.prog 15 #[.agg #[.int .i64 n, .int .i64 s, .int .i64 o, .int .i64 d, .float .f64 x], .float .f64 now] w fun e w' => e = .returned (.bool (openC ⟨n, s, o, d, x⟩ now)) ∧ Below w.heap.size w w' := by
  have HR := Lib.hid (sright_any n s o d x hn hs hx _ E (h.below (below_alloc1 w (.cells #[.int .i64 n, .int .i64 s, .int .i64 o, .int .i64 d, .float .f64 x] 26))))
  have HO := Lib.hid (show openC ⟨n, s, o, d, x⟩ now = (rightC ⟨n, s, o, d, x⟩ && (isDel now && decide (plainN now < x))) from rfl)
  have HX := Lib.hid (@right_x ⟨n, s, o, d, x⟩)
  have hd := del_eq ht
  have HL := Lib.hid (fun h1 h2 => @flt_ok now x h1 h2)
  generalize openC ⟨n, s, o, d, x⟩ now = r at *
  generalize rightC ⟨n, s, o, d, x⟩ = q at *
  have B := Lib.hid (below_alloc1 w (.cells #[.int .i64 n, .int .i64 s, .int .i64 o, .int .i64 d, .float .f64 x] 26))
  have N := Lib.hid (Blk.new w 26 #[.int .i64 n, .int .i64 s, .int .i64 o, .int .i64 d, .float .f64 x])
  have c0 := (N.out.cell 0).trans rfl
  have c1 := (N.out.cell 1).trans rfl
  have c2 := (N.out.cell 2).trans rfl
  have c3 := (N.out.cell 3).trans rfl
  have c4 := (N.out.cell 4).trans rfl
  clear h hn hs
  cases q
  · go_enter Tryz.func15, Tryz.ntmps15
    go_wp2_with fail
    refine HR.out.mono ?_
    rintro e w' ⟨rfl, hb⟩
    have B' := Lib.hid (B.out.trans (hb.mono B.out.size))
    have N' := Lib.hid (N.out.below hb N.out.lt)
    clear c0 c1 c2 c3 c4 hb B N
    have c0 := (N'.out.cell 0).trans rfl
    have c1 := (N'.out.cell 1).trans rfl
    have c2 := (N'.out.cell 2).trans rfl
    have c3 := (N'.out.cell 3).trans rfl
    have c4 := (N'.out.cell 4).trans rfl
    have B := Lib.hid B'.out
    have N := Lib.hid N'.out
    clear B' N'
    go_wp2_with fail
    go_ret
    exact ⟨by rw [HO.out]; rfl, B.out⟩
  · have hxi := HX.out rfl
    cases h1 : isDel now
    · rw [h1] at hd
      go_enter Tryz.func15, Tryz.ntmps15
      go_wp2_with fail
      refine HR.out.mono ?_
      rintro e w' ⟨rfl, hb⟩
      have B' := Lib.hid (B.out.trans (hb.mono B.out.size))
      have N' := Lib.hid (N.out.below hb N.out.lt)
      clear c0 c1 c2 c3 c4 hb B N
      have c0 := (N'.out.cell 0).trans rfl
      have c1 := (N'.out.cell 1).trans rfl
      have c2 := (N'.out.cell 2).trans rfl
      have c3 := (N'.out.cell 3).trans rfl
      have c4 := (N'.out.cell 4).trans rfl
      have B := Lib.hid B'.out
      have N := Lib.hid N'.out
      clear B' N'
      go_wp2_with fail
      go_ret
      exact ⟨by rw [HO.out, h1]; rfl, B.out⟩
    · rw [h1] at hd
      have hl := HL.out h1 hxi
      clear HL HX hxi hx ht
      cases h2 : decide (plainN now < x)
      all_goals
        rw [h2] at hl
        rw [h1, h2] at HO
        clear h2
        go_enter Tryz.func15, Tryz.ntmps15
        go_wp2_with fail
        refine HR.out.mono ?_
        rintro e w' ⟨rfl, hb⟩
        have B' := Lib.hid (B.out.trans (hb.mono B.out.size))
        have N' := Lib.hid (N.out.below hb N.out.lt)
        clear c0 c1 c2 c3 c4 hb B N
        have c0 := (N'.out.cell 0).trans rfl
        have c1 := (N'.out.cell 1).trans rfl
        have c2 := (N'.out.cell 2).trans rfl
        have c3 := (N'.out.cell 3).trans rfl
        have c4 := (N'.out.cell 4).trans rfl
        have B := Lib.hid B'.out
        have N := Lib.hid N'.out
        clear B' N'
        go_wp2_with fail
        go_ret
        exact ⟨by rw [HO.out]; rfl, B.out⟩
end Go.Proofs.YtejdnpbkljdahaaGreatDoor

namespace Go.Proofs.YtejdnpbkljdahaaGreatDoor
open Go.RowKit Go.Extern.Stop Go.Stop Go.Extern Ieee
attribute [local go_sem] flt_def fgt_def feq_def fne_def

theorem run_store_flt {P : Program} {w : World} {a : Addr} (k : FloatKind) (x : Nat) (m : Mode) : (store a (.float k x) m).run P w = stored P w a (.float k x) m := run_store P w a _ m rfl
attribute [local go_sem] run_store_flt
set_option maxRecDepth 20000 in
set_option maxHeartbeats 4000000 in
theorem snew_any (n s o : Int) (now lasts : Nat) (hn : -9223372036854775808 ≤ n) (hs : -9223372036854775808 ≤ s) (h1 : now < 18446744073709551616) (h2 : lasts < 18446744073709551616) (w : World) (E : Nat → Addr) (h : IdsG w E) :
    Calls Tryz.prog 13 #[.agg #[.int .i64 n, .int .i64 s], .int .i64 o, .float .f64 now, .float .f64 lasts] w fun e w' => Below w.heap.size w w' ∧ e = .returned (.tuple #[ctxV (newC n s o now lasts), errV E (newE n s o now lasts)]) := by
  have HG := Lib.hid (fun w' (hb : Below w.heap.size w w') => h.below hb)
  have HA := Lib.hid (fun w' h => right_any w' E n s hn hs h)
  have HL := Lib.hid (fun w' (h : Errs w' E) => later_any now lasts h1 h2 w' E (h.on [0, 3] (by decide)))
  have HI := Lib.hid (fun w' => isout_any o w')
  have hb1 := below_alloc (below_alloc1 w (.cells #[.int .i64 n, .int .i64 s] 23)) (.cells #[.int .i64 0, .int .i64 0, .int .i64 0, .int .i64 0, .float .f64 0] 26)
  have B := Lib.hid hb1
  have N := Lib.hid ((Blk.new w 23 #[.int .i64 n, .int .i64 s]).alloc (.cells #[.int .i64 0, .int .i64 0, .int .i64 0, .int .i64 0, .float .f64 0] 26))
  have M := Lib.hid (show Blk ((w.alloc (.cells #[.int .i64 n, .int .i64 s] 23)).alloc (.cells #[.int .i64 0, .int .i64 0, .int .i64 0, .int .i64 0, .float .f64 0] 26)) (w.heap.size + 1) 26 #[.int .i64 0, .int .i64 0, .int .i64 0, .int .i64 0, .float .f64 0] from by
    have := Blk.new (w.alloc (.cells #[.int .i64 n, .int .i64 s] 23)) 26 #[.int .i64 0, .int .i64 0, .int .i64 0, .int .i64 0, .float .f64 0]
    rwa [World.size_alloc] at this)
  have n0 := (N.out.cell 0).trans rfl
  have n1 := (N.out.cell 1).trans rfl
  unfold actV at HA
  clear hb1 h hn hs h1 h2
  cases ha : (actT n s).isSome
  · rw [ha] at HA
    have HE := Lib.hid (show newE n s o now lasts = 1 by unfold newE actB; rw [ha]; exact if_neg (by decide))
    have HC := Lib.hid (show newC n s o now lasts = ctx0 by unfold newC; rw [HE.out]; exact if_neg (by decide))
    clear ha HL HI
    go_enter Tryz.func13, Tryz.ntmps13
    go_wp2_with fail
    refine (HA.out _ (HG.out _ B.out)).mono ?_
    rintro e w' ⟨rfl, hb⟩
    have B' := Lib.hid (B.out.trans (hb.mono B.out.size))
    have N' := Lib.hid (N.out.below hb N.out.lt)
    have M' := Lib.hid (M.out.below hb M.out.lt)
    clear n0 n1 hb B N M
    have n0 := (N'.out.cell 0).trans rfl
    have n1 := (N'.out.cell 1).trans rfl
    have B := Lib.hid B'.out
    have N := Lib.hid N'.out
    have M := Lib.hid M'.out
    clear B' N' M'
    go_wp2_with fail
    refine wp_phiU (fun _ wa wb => Only (w.heap.size + 1) wa wb) (fun wq => Only (w.heap.size + 1) w' wq) [(2, PSto fun wq => Blk wq (w.heap.size + 1) 26 #[.int .i64 0, .int .i64 0, .int .i64 0, .int .i64 0, .float .f64 0])] [] [(2, fun wq => Blk wq (w.heap.size + 1) 26 #[.int .i64 0, .int .i64 0, .int .i64 0, .int .i64 0, .float .f64 0])] [] (by kernel_rfl) (by kernel_rfl) ?_ ?_ ?_ ?_ (Only.refl _ _).drew ?_
    · intro p hp w1 w2 h1 h2
      exact h1.trans h2
    · simp only [List.mem_cons, List.not_mem_nil, or_false, forall_eq]
      intro h
      exact absurd rfl h
    · simp only [List.mem_cons, List.not_mem_nil, or_false, forall_eq]
      intro h
      exact absurd rfl h
    · simp only [List.mem_cons, List.not_mem_nil, or_false, forall_eq]
      exact M.out
    repeat (first | (refine phiU_skipK rfl (fun K hK => ?_); simp only [Act.put, List.setIfInBounds_toArray, List.set_cons_succ, List.set_cons_zero]; (try simp only [List.cons_append]); (try simp only [List.nil_append]); apply hK; clear hK K) | (refine phiU_pureK rfl rfl (fun K hK => ?_); apply Exists.intro; constructor; (focus (rintro w' hI; (have hbI := hI.below (Nat.le_succ w.heap.size); have s1 := (HG.out _ (B.out.trans hbI)).errs.cell 0 (by omega); simp only [errVar, errAt, List.getD_cons_zero, List.getD_cons_succ] at s1; clear hI hbI); first | (go_simp; done) | (go_simp; (try go_bits); (try go_simp); rfl) | go_simp)); simp only [Act.put, List.setIfInBounds_toArray, List.set_cons_succ, List.set_cons_zero]; (try simp only [List.cons_append]); (try simp only [List.nil_append]); apply hK; clear hK K))
    refine phiU_partK (PSto fun wq => Blk wq (w.heap.size + 1) 26 #[.int .i64 0, .int .i64 0, .int .i64 0, .int .i64 0, .float .f64 0]) rfl rfl ⟨_, rfl⟩ ?_ (fun K hK v hv => ?_)
    · intro wq hI hf hu
      have hm : Blk wq (w.heap.size + 1) 26 #[.int .i64 0, .int .i64 0, .int .i64 0, .int .i64 0, .float .f64 0] := hu (2, fun wq => Blk wq (w.heap.size + 1) 26 #[.int .i64 0, .int .i64 0, .int .i64 0, .int .i64 0, .float .f64 0]) (by simp) rfl
      exact gives_store (.tmp 8) (.tmp 15) 26 rfl (w.heap.size + 1) 0 _ _ #[.int .i64 0, .int .i64 0, .int .i64 0, .int .i64 0, .float .f64 0] rfl rfl hm (by kernel_rfl) (by simp [Value.oneCell']) (by simp) (fun w2 h2 h3 => ⟨rfl, h2, h3⟩)
    obtain rfl : v = _ := hv
    simp only [Act.put, List.setIfInBounds_toArray, List.set_cons_succ, List.set_cons_zero]; (try simp only [List.cons_append]); (try simp only [List.nil_append])
    apply hK
    clear hK K
    repeat (first | (refine phiU_skipK rfl (fun K hK => ?_); simp only [Act.put, List.setIfInBounds_toArray, List.set_cons_succ, List.set_cons_zero]; (try simp only [List.cons_append]); (try simp only [List.nil_append]); apply hK; clear hK K) | (refine phiU_pureK rfl rfl (fun K hK => ?_); apply Exists.intro; constructor; (focus (rintro w' hI; (clear hI); first | (go_simp; done) | (go_simp; (try go_bits); (try go_simp); rfl) | go_simp)); simp only [Act.put, List.setIfInBounds_toArray, List.set_cons_succ, List.set_cons_zero]; (try simp only [List.cons_append]); (try simp only [List.nil_append]); apply hK; clear hK K))
    refine phiU_done ?_
    intro w7 hI hf
    have h7 : Blk w7 (w.heap.size + 1) 26 #[.int .i64 0, .int .i64 0, .int .i64 0, .int .i64 0, .float .f64 0] := hf (2, fun wq => (PSto fun wq => Blk wq (w.heap.size + 1) 26 #[.int .i64 0, .int .i64 0, .int .i64 0, .int .i64 0, .float .f64 0]).fact wq undef) (by simp) rfl
    have B7 := Lib.hid (B.out.trans (hI.below (Nat.le_succ w.heap.size)))
    clear hf hI
    have q0 := (h7.cell 0).trans rfl
    have q1 := (h7.cell 1).trans rfl
    have q2 := (h7.cell 2).trans rfl
    have q3 := (h7.cell 3).trans rfl
    have q4 := (h7.cell 4).trans rfl
    refine wpList_nil ?_
    go_wp2_with fail
    refine bodyPost_ret (v := .tuple #[.agg #[.int .i64 0, .int .i64 0, .int .i64 0, .int .i64 0, .float .f64 0], errAt (E 0)]) (by simp [results, Tryz.results13, go_sem, errAt, q0, q1, q2, q3, q4]) rfl ?_
    exact ⟨B7.out, by rw [HC.out, HE.out]; rfl⟩
  · rw [ha] at HA
    cases hl : bothDel now lasts
    · have HE := Lib.hid (show newE n s o now lasts = 4 by unfold newE actB; rw [ha, hl]; rfl)
      have HC := Lib.hid (show newC n s o now lasts = ctx0 by unfold newC; rw [HE.out]; exact if_neg (by decide))
      have e1 : laterF now lasts = 0 := by unfold laterF; exact if_neg (by rw [hl]; decide)
      have e2 : laterE now lasts = 4 := by unfold laterE; exact if_neg (by rw [hl]; decide)
      rw [e1, e2, errV_four] at HL
      clear ha hl HI e1 e2
      go_enter Tryz.func13, Tryz.ntmps13
      go_wp2_with fail
      refine (HA.out _ (HG.out _ B.out)).mono ?_
      rintro e w' ⟨rfl, hb⟩
      have B' := Lib.hid (B.out.trans (hb.mono B.out.size))
      have N' := Lib.hid (N.out.below hb N.out.lt)
      have M' := Lib.hid (M.out.below hb M.out.lt)
      clear n0 n1 hb B N M
      have n0 := (N'.out.cell 0).trans rfl
      have n1 := (N'.out.cell 1).trans rfl
      have B := Lib.hid B'.out
      have N := Lib.hid N'.out
      have M := Lib.hid M'.out
      clear B' N' M'
      go_wp2_with fail
      refine (HL.out _ (HG.out _ B.out).errs).mono ?_
      rintro e w' ⟨rfl, hb⟩
      have B' := Lib.hid (B.out.trans (hb.mono B.out.size))
      have N' := Lib.hid (N.out.below hb N.out.lt)
      have M' := Lib.hid (M.out.below hb M.out.lt)
      clear n0 n1 hb B N M
      have n0 := (N'.out.cell 0).trans rfl
      have n1 := (N'.out.cell 1).trans rfl
      have B := Lib.hid B'.out
      have N := Lib.hid N'.out
      have M := Lib.hid M'.out
      clear B' N' M'
      go_wp2_with fail
      refine wp_phiU (fun _ wa wb => Only (w.heap.size + 1) wa wb) (fun wq => Only (w.heap.size + 1) w' wq) [(2, PSto fun wq => Blk wq (w.heap.size + 1) 26 #[.int .i64 0, .int .i64 0, .int .i64 0, .int .i64 0, .float .f64 0])] [] [(2, fun wq => Blk wq (w.heap.size + 1) 26 #[.int .i64 0, .int .i64 0, .int .i64 0, .int .i64 0, .float .f64 0])] [] (by kernel_rfl) (by kernel_rfl) ?_ ?_ ?_ ?_ (Only.refl _ _).drew ?_
      · intro p hp w1 w2 h1 h2
        exact h1.trans h2
      · simp only [List.mem_cons, List.not_mem_nil, or_false, forall_eq]
        intro h
        exact absurd rfl h
      · simp only [List.mem_cons, List.not_mem_nil, or_false, forall_eq]
        intro h
        exact absurd rfl h
      · simp only [List.mem_cons, List.not_mem_nil, or_false, forall_eq]
        exact M.out
      repeat (first | (refine phiU_skipK rfl (fun K hK => ?_); simp only [Act.put, List.setIfInBounds_toArray, List.set_cons_succ, List.set_cons_zero]; (try simp only [List.cons_append]); (try simp only [List.nil_append]); apply hK; clear hK K) | (refine phiU_pureK rfl rfl (fun K hK => ?_); apply Exists.intro; constructor; (focus (rintro w' hI; (have hbI := hI.below (Nat.le_succ w.heap.size); have s1 := (HG.out _ (B.out.trans hbI)).errs.cell 3 (by omega); simp only [errVar, errAt, List.getD_cons_zero, List.getD_cons_succ] at s1; clear hI hbI); first | (go_simp; done) | (go_simp; (try go_bits); (try go_simp); rfl) | go_simp)); simp only [Act.put, List.setIfInBounds_toArray, List.set_cons_succ, List.set_cons_zero]; (try simp only [List.cons_append]); (try simp only [List.nil_append]); apply hK; clear hK K))
      refine phiU_partK (PSto fun wq => Blk wq (w.heap.size + 1) 26 #[.int .i64 0, .int .i64 0, .int .i64 0, .int .i64 0, .float .f64 0]) rfl rfl ⟨_, rfl⟩ ?_ (fun K hK v hv => ?_)
      · intro wq hI hf hu
        have hm : Blk wq (w.heap.size + 1) 26 #[.int .i64 0, .int .i64 0, .int .i64 0, .int .i64 0, .float .f64 0] := hu (2, fun wq => Blk wq (w.heap.size + 1) 26 #[.int .i64 0, .int .i64 0, .int .i64 0, .int .i64 0, .float .f64 0]) (by simp) rfl
        exact gives_store (.tmp 8) (.tmp 30) 26 rfl (w.heap.size + 1) 0 _ _ #[.int .i64 0, .int .i64 0, .int .i64 0, .int .i64 0, .float .f64 0] rfl rfl hm (by kernel_rfl) (by simp [Value.oneCell']) (by simp) (fun w2 h2 h3 => ⟨rfl, h2, h3⟩)
      obtain rfl : v = _ := hv
      simp only [Act.put, List.setIfInBounds_toArray, List.set_cons_succ, List.set_cons_zero]; (try simp only [List.cons_append]); (try simp only [List.nil_append])
      apply hK
      clear hK K
      repeat (first | (refine phiU_skipK rfl (fun K hK => ?_); simp only [Act.put, List.setIfInBounds_toArray, List.set_cons_succ, List.set_cons_zero]; (try simp only [List.cons_append]); (try simp only [List.nil_append]); apply hK; clear hK K) | (refine phiU_pureK rfl rfl (fun K hK => ?_); apply Exists.intro; constructor; (focus (rintro w' hI; (clear hI); first | (go_simp; done) | (go_simp; (try go_bits); (try go_simp); rfl) | go_simp)); simp only [Act.put, List.setIfInBounds_toArray, List.set_cons_succ, List.set_cons_zero]; (try simp only [List.cons_append]); (try simp only [List.nil_append]); apply hK; clear hK K))
      refine phiU_done ?_
      intro w7 hI hf
      have h7 : Blk w7 (w.heap.size + 1) 26 #[.int .i64 0, .int .i64 0, .int .i64 0, .int .i64 0, .float .f64 0] := hf (2, fun wq => (PSto fun wq => Blk wq (w.heap.size + 1) 26 #[.int .i64 0, .int .i64 0, .int .i64 0, .int .i64 0, .float .f64 0]).fact wq undef) (by simp) rfl
      have B7 := Lib.hid (B.out.trans (hI.below (Nat.le_succ w.heap.size)))
      clear hf hI
      have q0 := (h7.cell 0).trans rfl
      have q1 := (h7.cell 1).trans rfl
      have q2 := (h7.cell 2).trans rfl
      have q3 := (h7.cell 3).trans rfl
      have q4 := (h7.cell 4).trans rfl
      refine wpList_nil ?_
      go_wp2_with fail
      refine bodyPost_ret (v := .tuple #[.agg #[.int .i64 0, .int .i64 0, .int .i64 0, .int .i64 0, .float .f64 0], errAt (E 3)]) (by simp [results, Tryz.results13, go_sem, errAt, q0, q1, q2, q3, q4]) rfl ?_
      exact ⟨B7.out, by rw [HC.out, HE.out]; rfl⟩
    · have e1 : laterF now lasts = addN (plainN now) (plainN lasts) := by unfold laterF; exact if_pos hl
      have e2 : laterE now lasts = 0 := by unfold laterE; exact if_pos hl
      rw [e1, e2, errV_zero] at HL
      cases ho : isOut o
      · rw [ho] at HI
        have HE := Lib.hid (show newE n s o now lasts = 4 by unfold newE actB; rw [ha, hl, ho]; rfl)
        have HC := Lib.hid (show newC n s o now lasts = ctx0 by unfold newC; rw [HE.out]; exact if_neg (by decide))
        clear ha hl ho e1 e2
        generalize addN (plainN now) (plainN lasts) = x at *
        go_enter Tryz.func13, Tryz.ntmps13
        go_wp2_with fail
        refine (HA.out _ (HG.out _ B.out)).mono ?_
        rintro e w' ⟨rfl, hb⟩
        have B' := Lib.hid (B.out.trans (hb.mono B.out.size))
        have N' := Lib.hid (N.out.below hb N.out.lt)
        have M' := Lib.hid (M.out.below hb M.out.lt)
        clear n0 n1 hb B N M
        have n0 := (N'.out.cell 0).trans rfl
        have n1 := (N'.out.cell 1).trans rfl
        have B := Lib.hid B'.out
        have N := Lib.hid N'.out
        have M := Lib.hid M'.out
        clear B' N' M'
        go_wp2_with fail
        refine (HL.out _ (HG.out _ B.out).errs).mono ?_
        rintro e w' ⟨rfl, hb⟩
        have B' := Lib.hid (B.out.trans (hb.mono B.out.size))
        have N' := Lib.hid (N.out.below hb N.out.lt)
        have M' := Lib.hid (M.out.below hb M.out.lt)
        clear n0 n1 hb B N M
        have n0 := (N'.out.cell 0).trans rfl
        have n1 := (N'.out.cell 1).trans rfl
        have B := Lib.hid B'.out
        have N := Lib.hid N'.out
        have M := Lib.hid M'.out
        clear B' N' M'
        go_wp2_with fail
        refine (HI.out _).mono ?_
        rintro e w' ⟨rfl, hb⟩
        have B' := Lib.hid (B.out.trans (hb.mono B.out.size))
        have N' := Lib.hid (N.out.below hb N.out.lt)
        have M' := Lib.hid (M.out.below hb M.out.lt)
        clear n0 n1 hb B N M
        have n0 := (N'.out.cell 0).trans rfl
        have n1 := (N'.out.cell 1).trans rfl
        have B := Lib.hid B'.out
        have N := Lib.hid N'.out
        have M := Lib.hid M'.out
        clear B' N' M'
        go_wp2_with fail
        refine wp_phiU (fun _ wa wb => Only (w.heap.size + 1) wa wb) (fun wq => Only (w.heap.size + 1) w' wq) [(2, PSto fun wq => Blk wq (w.heap.size + 1) 26 #[.int .i64 0, .int .i64 0, .int .i64 0, .int .i64 0, .float .f64 0])] [] [(2, fun wq => Blk wq (w.heap.size + 1) 26 #[.int .i64 0, .int .i64 0, .int .i64 0, .int .i64 0, .float .f64 0])] [] (by kernel_rfl) (by kernel_rfl) ?_ ?_ ?_ ?_ (Only.refl _ _).drew ?_
        · intro p hp w1 w2 h1 h2
          exact h1.trans h2
        · simp only [List.mem_cons, List.not_mem_nil, or_false, forall_eq]
          intro h
          exact absurd rfl h
        · simp only [List.mem_cons, List.not_mem_nil, or_false, forall_eq]
          intro h
          exact absurd rfl h
        · simp only [List.mem_cons, List.not_mem_nil, or_false, forall_eq]
          exact M.out
        repeat (first | (refine phiU_skipK rfl (fun K hK => ?_); simp only [Act.put, List.setIfInBounds_toArray, List.set_cons_succ, List.set_cons_zero]; (try simp only [List.cons_append]); (try simp only [List.nil_append]); apply hK; clear hK K) | (refine phiU_pureK rfl rfl (fun K hK => ?_); apply Exists.intro; constructor; (focus (rintro w' hI; (have hbI := hI.below (Nat.le_succ w.heap.size); have s1 := (HG.out _ (B.out.trans hbI)).errs.cell 3 (by omega); simp only [errVar, errAt, List.getD_cons_zero, List.getD_cons_succ] at s1; clear hI hbI); first | (go_simp; done) | (go_simp; (try go_bits); (try go_simp); rfl) | go_simp)); simp only [Act.put, List.setIfInBounds_toArray, List.set_cons_succ, List.set_cons_zero]; (try simp only [List.cons_append]); (try simp only [List.nil_append]); apply hK; clear hK K))
        refine phiU_partK (PSto fun wq => Blk wq (w.heap.size + 1) 26 #[.int .i64 0, .int .i64 0, .int .i64 0, .int .i64 0, .float .f64 0]) rfl rfl ⟨_, rfl⟩ ?_ (fun K hK v hv => ?_)
        · intro wq hI hf hu
          have hm : Blk wq (w.heap.size + 1) 26 #[.int .i64 0, .int .i64 0, .int .i64 0, .int .i64 0, .float .f64 0] := hu (2, fun wq => Blk wq (w.heap.size + 1) 26 #[.int .i64 0, .int .i64 0, .int .i64 0, .int .i64 0, .float .f64 0]) (by simp) rfl
          exact gives_store (.tmp 8) (.tmp 30) 26 rfl (w.heap.size + 1) 0 _ _ #[.int .i64 0, .int .i64 0, .int .i64 0, .int .i64 0, .float .f64 0] rfl rfl hm (by kernel_rfl) (by simp [Value.oneCell']) (by simp) (fun w2 h2 h3 => ⟨rfl, h2, h3⟩)
        obtain rfl : v = _ := hv
        simp only [Act.put, List.setIfInBounds_toArray, List.set_cons_succ, List.set_cons_zero]; (try simp only [List.cons_append]); (try simp only [List.nil_append])
        apply hK
        clear hK K
        repeat (first | (refine phiU_skipK rfl (fun K hK => ?_); simp only [Act.put, List.setIfInBounds_toArray, List.set_cons_succ, List.set_cons_zero]; (try simp only [List.cons_append]); (try simp only [List.nil_append]); apply hK; clear hK K) | (refine phiU_pureK rfl rfl (fun K hK => ?_); apply Exists.intro; constructor; (focus (rintro w' hI; (clear hI); first | (go_simp; done) | (go_simp; (try go_bits); (try go_simp); rfl) | go_simp)); simp only [Act.put, List.setIfInBounds_toArray, List.set_cons_succ, List.set_cons_zero]; (try simp only [List.cons_append]); (try simp only [List.nil_append]); apply hK; clear hK K))
        refine phiU_done ?_
        intro w7 hI hf
        have h7 : Blk w7 (w.heap.size + 1) 26 #[.int .i64 0, .int .i64 0, .int .i64 0, .int .i64 0, .float .f64 0] := hf (2, fun wq => (PSto fun wq => Blk wq (w.heap.size + 1) 26 #[.int .i64 0, .int .i64 0, .int .i64 0, .int .i64 0, .float .f64 0]).fact wq undef) (by simp) rfl
        have B7 := Lib.hid (B.out.trans (hI.below (Nat.le_succ w.heap.size)))
        clear hf hI
        have q0 := (h7.cell 0).trans rfl
        have q1 := (h7.cell 1).trans rfl
        have q2 := (h7.cell 2).trans rfl
        have q3 := (h7.cell 3).trans rfl
        have q4 := (h7.cell 4).trans rfl
        refine wpList_nil ?_
        go_wp2_with fail
        refine bodyPost_ret (v := .tuple #[.agg #[.int .i64 0, .int .i64 0, .int .i64 0, .int .i64 0, .float .f64 0], errAt (E 3)]) (by simp [results, Tryz.results13, go_sem, errAt, q0, q1, q2, q3, q4]) rfl ?_
        exact ⟨B7.out, by rw [HC.out, HE.out]; rfl⟩
      · rw [ho] at HI
        have HE := Lib.hid (show newE n s o now lasts = 0 by unfold newE actB; rw [ha, hl, ho]; rfl)
        have HC := Lib.hid (show newC n s o now lasts = ⟨n, s, o, 0, addN (plainN now) (plainN lasts)⟩ by unfold newC; rw [HE.out]; exact if_pos rfl)
        clear ha hl ho e1 e2
        generalize addN (plainN now) (plainN lasts) = x at *
        go_enter Tryz.func13, Tryz.ntmps13
        go_wp2_with fail
        refine (HA.out _ (HG.out _ B.out)).mono ?_
        rintro e w' ⟨rfl, hb⟩
        have B' := Lib.hid (B.out.trans (hb.mono B.out.size))
        have N' := Lib.hid (N.out.below hb N.out.lt)
        have M' := Lib.hid (M.out.below hb M.out.lt)
        clear n0 n1 hb B N M
        have n0 := (N'.out.cell 0).trans rfl
        have n1 := (N'.out.cell 1).trans rfl
        have B := Lib.hid B'.out
        have N := Lib.hid N'.out
        have M := Lib.hid M'.out
        clear B' N' M'
        go_wp2_with fail
        refine (HL.out _ (HG.out _ B.out).errs).mono ?_
        rintro e w' ⟨rfl, hb⟩
        have B' := Lib.hid (B.out.trans (hb.mono B.out.size))
        have N' := Lib.hid (N.out.below hb N.out.lt)
        have M' := Lib.hid (M.out.below hb M.out.lt)
        clear n0 n1 hb B N M
        have n0 := (N'.out.cell 0).trans rfl
        have n1 := (N'.out.cell 1).trans rfl
        have B := Lib.hid B'.out
        have N := Lib.hid N'.out
        have M := Lib.hid M'.out
        clear B' N' M'
        go_wp2_with fail
        refine (HI.out _).mono ?_
        rintro e w' ⟨rfl, hb⟩
        have B' := Lib.hid (B.out.trans (hb.mono B.out.size))
        have N' := Lib.hid (N.out.below hb N.out.lt)
        have M' := Lib.hid (M.out.below hb M.out.lt)
        clear n0 n1 hb B N M
        have n0 := (N'.out.cell 0).trans rfl
        have n1 := (N'.out.cell 1).trans rfl
        have B := Lib.hid B'.out
        have N := Lib.hid N'.out
        have M := Lib.hid M'.out
        clear B' N' M'
        go_wp2_with (refine wpList_store (.tmp 8) (.tmp 35) 26 rfl rfl (w.heap.size + 1) 0 _ _ #[.int .i64 n, .int .i64 s, .int .i64 o, .int .i64 0, .float .f64 x] rfl rfl M.out (by kernel_rfl) (by simp [Value.oneCell']) (by simp) ?_)
        intro w7 hn7 ko7
        have h7 : Blk w7 (w.heap.size + 1) 26 #[.int .i64 n, .int .i64 s, .int .i64 o, .int .i64 0, .float .f64 x] := hn7
        have q0 := (h7.cell 0).trans rfl
        have q1 := (h7.cell 1).trans rfl
        have q2 := (h7.cell 2).trans rfl
        have q3 := (h7.cell 3).trans rfl
        have q4 := (h7.cell 4).trans rfl
        go_wp2_with fail
        refine bodyPost_ret (v := .tuple #[.agg #[.int .i64 n, .int .i64 s, .int .i64 o, .int .i64 0, .float .f64 x], .nilIface]) (by simp [results, Tryz.results13, go_sem, errAt, q0, q1, q2, q3, q4]) rfl ?_
        exact ⟨B.out.trans (ko7.below (Nat.le_succ _)), by rw [HC.out, HE.out]; rfl⟩
end Go.Proofs.YtejdnpbkljdahaaGreatDoor

namespace Go.Proofs.YtejdnpbkljdahaaGreatDoor
open Go.RowKit Go.Extern.Stop Go.Stop Go.Extern Ieee
attribute [local go_sem] flt_def fgt_def feq_def fne_def

theorem inf_any (w : World) : Calls Tryz.prog 14 #[.int .i64 1] w (Gives w (.float .f64 infR)) := by
  have h1 := run_frombits infR
  have h2 : ((infR : Nat) : Int) = 9218868437227405312 := rfl
  rw [h2] at h1
  go_enter Tryz.func14, Tryz.ntmps14
  go_wp2_with fail
  go_ret
  exact ⟨rfl, Below.refl _ _⟩
theorem alive_e : newE 0 1 1 4617315517961601024 infR = 0 := by decide +kernel
theorem alive_c : newC 0 1 1 4617315517961601024 infR = ⟨0, 1, 1, 0, infR⟩ := by
  unfold newC
  rw [alive_e, if_pos rfl, show addN (plainN 4617315517961601024) (plainN infR) = infR from if_pos (.inr (by decide))]
theorem alive_1 : openC ⟨0, 1, 1, 0, infR⟩ 4617315517961601024 = true := by decide +kernel
theorem alive_2 : openC ⟨0, 1, 1, 0, infR⟩ 9094988921128908188 = true := by decide +kernel
theorem alive_3 : openC ⟨0, 1, 1, 0, infR⟩ infR = false := by decide +kernel
set_option maxRecDepth 20000 in
set_option maxHeartbeats 4000000 in
theorem alive9_any (w : World) (E : Nat → Addr) (h : IdsG w E) :
    Calls Tryz.prog 4 #[] w fun e w' => e = .returned (.bool true) ∧ Below w.heap.size w w' := by
  have HG := Lib.hid (fun w' (hb : Below w.heap.size w w') => h.below hb)
  have HI := Lib.hid (fun w' => inf_any w')
  have HN := Lib.hid (fun w' h => snew_any 0 1 1 4617315517961601024 infR (by omega) (by omega) (by omega) (by decide) w' E h)
  rw [alive_c, alive_e] at HN
  have H1 := Lib.hid (fun w' h => sopen_any 0 1 1 0 infR 4617315517961601024 (by omega) (by omega) (by decide) (by omega) w' E h)
  rw [alive_1] at H1
  have H2 := Lib.hid (fun w' h => sopen_any 0 1 1 0 infR 9094988921128908188 (by omega) (by omega) (by decide) (by omega) w' E h)
  rw [alive_2] at H2
  have H3 := Lib.hid (fun w' h => sopen_any 0 1 1 0 infR infR (by omega) (by omega) (by decide) (by decide) w' E h)
  rw [alive_3] at H3
  unfold ctxV ctxA at HN
  simp only [errV_zero] at HN
  clear h
  generalize infR = x at *
  go_enter Tryz.func4, Tryz.ntmps4
  go_wp2_with fail
  refine (HI.out _).mono ?_
  rintro e w' ⟨rfl, hb⟩
  have B := Lib.hid hb
  clear hb
  go_wp2_with fail
  refine (HN.out _ (HG.out _ B.out)).mono ?_
  rintro e w' ⟨hb, rfl⟩
  have B' := Lib.hid (B.out.trans (hb.mono B.out.size))
  clear hb B
  have M := Lib.hid (Blk.new w' 26 #[.int .i64 0, .int .i64 0, .int .i64 0, .int .i64 0, .float .f64 0])
  have B := Lib.hid (below_alloc B'.out (.cells #[.int .i64 0, .int .i64 0, .int .i64 0, .int .i64 0, .float .f64 0] 26))
  go_wp2_with (refine wpList_store (.tmp 1) (.tmp 7) 26 rfl rfl w'.heap.size 0 _ _ #[.int .i64 0, .int .i64 1, .int .i64 1, .int .i64 0, .float .f64 x] rfl rfl M.out (by kernel_rfl) (by simp [Value.oneCell']) (by simp) ?_)
  intro w7 hn7 ko7
  have M7 : Blk w7 w'.heap.size 26 #[.int .i64 0, .int .i64 1, .int .i64 1, .int .i64 0, .float .f64 x] := hn7
  have B7 := Lib.hid (B.out.trans (ko7.below B'.out.size))
  have M8 := Lib.hid M7
  generalize w'.heap.size = g at *
  clear hn7 ko7 M7 M B B'
  go_wp2_with fail
  refine wp_phi (fun w' => Below w.heap.size w w' ∧ Blk w' g 26 #[.int .i64 0, .int .i64 1, .int .i64 1, .int .i64 0, .float .f64 x]) [(4, PVal (.bool true)), (8, PVal (.bool true)), (12, PVal (.float .f64 x)), (13, PVal (.bool false))] [] (by kernel_rfl) (by kernel_rfl) ?_ ?_ ⟨B7.out.drew, M8.out⟩ ?_
  · rintro w1 w2 ⟨a1, a2⟩ hb
    exact ⟨a1.trans (hb.mono a1.size), a2.below hb a2.lt⟩
  · simp only [List.mem_cons, List.not_mem_nil, or_false, forall_eq_or_imp, forall_eq]
    exact ⟨fun _ _ _ _ _ h => h, fun _ _ _ _ _ h => h, fun _ _ _ _ _ h => h, fun _ _ _ _ _ h => h⟩
  repeat (first | (refine phi_skipK rfl (fun K hK => ?_); simp only [Act.put, List.setIfInBounds_toArray, List.set_cons_succ, List.set_cons_zero]; (try simp only [List.cons_append]); (try simp only [List.nil_append]); apply hK; clear hK K) | (refine phi_pureK rfl rfl (fun K hK => ?_); apply Exists.intro; constructor; (focus (rintro w' ⟨h0, hN⟩; (have k0 := (hN.cell 0).trans rfl; have k1 := (hN.cell 1).trans rfl; have k2 := (hN.cell 2).trans rfl; have k3 := (hN.cell 3).trans rfl; have k4 := (hN.cell 4).trans rfl; clear h0 hN); first | (go_simp; done) | (go_simp; (try go_bits); (try go_simp); rfl) | go_simp)); simp only [Act.put, List.setIfInBounds_toArray, List.set_cons_succ, List.set_cons_zero]; (try simp only [List.cons_append]); (try simp only [List.nil_append]); apply hK; clear hK K))
  refine phi_partK (PVal (.bool true)) rfl rfl ⟨_, rfl⟩ ?_ (fun K hK v hv => ?_)
  · rintro w' ⟨h0, hN⟩ _
    unfold gives
    go_simp
    refine (H1.out _ (HG.out _ h0)).mono ?_
    rintro e w'' ⟨rfl, hb⟩
    exact ⟨_, rfl, rfl, trivial, hb⟩
  obtain rfl : v = _ := hv
  simp only [Act.put, List.setIfInBounds_toArray, List.set_cons_succ, List.set_cons_zero]; (try simp only [List.cons_append]); (try simp only [List.nil_append])
  apply hK
  clear hK K
  repeat (first | (refine phi_skipK rfl (fun K hK => ?_); simp only [Act.put, List.setIfInBounds_toArray, List.set_cons_succ, List.set_cons_zero]; (try simp only [List.cons_append]); (try simp only [List.nil_append]); apply hK; clear hK K) | (refine phi_pureK rfl rfl (fun K hK => ?_); apply Exists.intro; constructor; (focus (rintro w' ⟨h0, hN⟩; (have k0 := (hN.cell 0).trans rfl; have k1 := (hN.cell 1).trans rfl; have k2 := (hN.cell 2).trans rfl; have k3 := (hN.cell 3).trans rfl; have k4 := (hN.cell 4).trans rfl; clear h0 hN); first | (go_simp; done) | (go_simp; (try go_bits); (try go_simp); rfl) | go_simp)); simp only [Act.put, List.setIfInBounds_toArray, List.set_cons_succ, List.set_cons_zero]; (try simp only [List.cons_append]); (try simp only [List.nil_append]); apply hK; clear hK K))
  refine phi_partK (PVal (.bool true)) rfl rfl ⟨_, rfl⟩ ?_ (fun K hK v hv => ?_)
  · rintro w' ⟨h0, hN⟩ _
    unfold gives
    go_simp
    refine (H2.out _ (HG.out _ h0)).mono ?_
    rintro e w'' ⟨rfl, hb⟩
    exact ⟨_, rfl, rfl, trivial, hb⟩
  obtain rfl : v = _ := hv
  simp only [Act.put, List.setIfInBounds_toArray, List.set_cons_succ, List.set_cons_zero]; (try simp only [List.cons_append]); (try simp only [List.nil_append])
  apply hK
  clear hK K
  repeat (first | (refine phi_skipK rfl (fun K hK => ?_); simp only [Act.put, List.setIfInBounds_toArray, List.set_cons_succ, List.set_cons_zero]; (try simp only [List.cons_append]); (try simp only [List.nil_append]); apply hK; clear hK K) | (refine phi_pureK rfl rfl (fun K hK => ?_); apply Exists.intro; constructor; (focus (rintro w' ⟨h0, hN⟩; (have k0 := (hN.cell 0).trans rfl; have k1 := (hN.cell 1).trans rfl; have k2 := (hN.cell 2).trans rfl; have k3 := (hN.cell 3).trans rfl; have k4 := (hN.cell 4).trans rfl; clear h0 hN); first | (go_simp; done) | (go_simp; (try go_bits); (try go_simp); rfl) | go_simp)); simp only [Act.put, List.setIfInBounds_toArray, List.set_cons_succ, List.set_cons_zero]; (try simp only [List.cons_append]); (try simp only [List.nil_append]); apply hK; clear hK K))
  refine phi_partK (PVal (.float .f64 x)) rfl rfl ⟨_, rfl⟩ ?_ (fun K hK v hv => ?_)
  · rintro w' ⟨h0, hN⟩ _
    unfold gives
    go_simp
    refine (HI.out _).mono ?_
    rintro e w'' ⟨rfl, hb⟩
    exact ⟨_, rfl, rfl, trivial, hb⟩
  obtain rfl : v = _ := hv
  simp only [Act.put, List.setIfInBounds_toArray, List.set_cons_succ, List.set_cons_zero]; (try simp only [List.cons_append]); (try simp only [List.nil_append])
  apply hK
  clear hK K
  repeat (first | (refine phi_skipK rfl (fun K hK => ?_); simp only [Act.put, List.setIfInBounds_toArray, List.set_cons_succ, List.set_cons_zero]; (try simp only [List.cons_append]); (try simp only [List.nil_append]); apply hK; clear hK K) | (refine phi_pureK rfl rfl (fun K hK => ?_); apply Exists.intro; constructor; (focus (rintro w' ⟨h0, hN⟩; (have k0 := (hN.cell 0).trans rfl; have k1 := (hN.cell 1).trans rfl; have k2 := (hN.cell 2).trans rfl; have k3 := (hN.cell 3).trans rfl; have k4 := (hN.cell 4).trans rfl; clear h0 hN); first | (go_simp; done) | (go_simp; (try go_bits); (try go_simp); rfl) | go_simp)); simp only [Act.put, List.setIfInBounds_toArray, List.set_cons_succ, List.set_cons_zero]; (try simp only [List.cons_append]); (try simp only [List.nil_append]); apply hK; clear hK K))
  refine phi_partK (PVal (.bool false)) rfl rfl ⟨_, rfl⟩ ?_ (fun K hK v hv => ?_)
  · rintro w' ⟨h0, hN⟩ _
    unfold gives
    go_simp
    refine (H3.out _ (HG.out _ h0)).mono ?_
    rintro e w'' ⟨rfl, hb⟩
    exact ⟨_, rfl, rfl, trivial, hb⟩
  obtain rfl : v = _ := hv
  simp only [Act.put, List.setIfInBounds_toArray, List.set_cons_succ, List.set_cons_zero]; (try simp only [List.cons_append]); (try simp only [List.nil_append])
  apply hK
  clear hK K
  repeat (first | (refine phi_skipK rfl (fun K hK => ?_); simp only [Act.put, List.setIfInBounds_toArray, List.set_cons_succ, List.set_cons_zero]; (try simp only [List.cons_append]); (try simp only [List.nil_append]); apply hK; clear hK K) | (refine phi_pureK rfl rfl (fun K hK => ?_); apply Exists.intro; constructor; (focus (rintro w' ⟨h0, hN⟩; (have k0 := (hN.cell 0).trans rfl; have k1 := (hN.cell 1).trans rfl; have k2 := (hN.cell 2).trans rfl; have k3 := (hN.cell 3).trans rfl; have k4 := (hN.cell 4).trans rfl; clear h0 hN); first | (go_simp; done) | (go_simp; (try go_bits); (try go_simp); rfl) | go_simp)); simp only [Act.put, List.setIfInBounds_toArray, List.set_cons_succ, List.set_cons_zero]; (try simp only [List.cons_append]); (try simp only [List.nil_append]); apply hK; clear hK K))
  refine phi_done ?_
  rintro w' ⟨hb, _⟩ _
  have B' := Lib.hid hb
  clear hb
  refine wpList_nil ?_
  go_wp2_with fail
  go_ret
  exact ⟨rfl, B'.out⟩
end Go.Proofs.YtejdnpbkljdahaaGreatDoor
