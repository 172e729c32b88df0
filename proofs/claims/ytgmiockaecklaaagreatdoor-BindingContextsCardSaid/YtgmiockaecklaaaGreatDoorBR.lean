/-
  TryAct: catch.Try over the struct liaison/api.Act.
  IdsP2: reading numbers' digits. No program.
  IdsR: package ids: digits, upTo, after, two.
  IdsR2: package ids: upTo, after, two; strings.Cut at one byte.
  IdsRA: package ids: ToAct alone (of IdsR3, IdsR4).
  IdsLA: the document's digits, and an activity's text (of IdsL, IdsL2).
  IdsBA: what has a text is read from it (IdsB). No program.
-/
import Derived.Test.YtgmiockaecklaaaGreatDoorBA
import Derived.Test.YtgmiockaecklaaaGreatDoorBB
import Derived.Lib.IndexBytes
import Derived.Lib.IndexLaws
import Derived.Lib.CutLaws
import Derived.Test.YtgmiockaecklaaaGreatDoorShelf
import Derived.BigCall
import Derived.BigGuard
import Derived.Deep.Draws
import Derived.Laws.Strings3
import Derived.IntWalk
namespace Go.Proofs.YtgmiockaecklaaaGreatDoor
open Go.RowKit Go.Extern.Stop Go.Stop Go.Extern

/-- nothing panicked: the deferred closure turns nothing -/
theorem tryAct_idle (d x r : Nat) (w : World) (hd : w.cell? ⟨d, 0, none⟩ = some (.bool true)) :
    CallsD Tryz.prog 85 #[.pointer (some ⟨d, 0, none⟩), .pointer (some ⟨x, 0, none⟩), .pointer (some ⟨r, 0, none⟩)] .returning w fun e u' w' => e = .returned (.tuple #[]) ∧ u' = .returning ∧ w' = w := by
  refine callsD_of_wpS Tryz.func85 rfl fun c₀ cs hu => ?_
  apply wpS_seq
  apply wpS_region
  simp [wpOpsS, go_sem, recoverD, hu, Tryz.ntmps85, Exit.thenS]
  refine wpS_of_wp ?_
  have e : (#[Value.pointer (some ⟨d, 0, none⟩), .pointer (some ⟨x, 0, none⟩), .pointer (some ⟨r, 0, none⟩)] ++ ((Array.replicate 8 undef).setIfInBounds 2 Value.nilIface).setIfInBounds 0 Value.nilIface) =
      #[Value.pointer (some ⟨d, 0, none⟩), .pointer (some ⟨x, 0, none⟩), .pointer (some ⟨r, 0, none⟩), .nilIface, undef, .nilIface, undef, undef, undef, undef, undef] := rfl
  rw [e]
  clear e
  go_wp2_with fail
  cases c₀
  simp_all [bodyPostS, results, Tryz.results85]
/-- what panicked is the result, told -/
theorem tryAct_err (d x r : Nat) (w : World) (E : Nat → Addr) (u : Value) (n : Nat) (older : List PanicEntry) (hu0 : ∃ T x, u = .iface T x) (ht : Tells w u E n) (he : Errs w E) (hd : w.cell? ⟨d, 0, none⟩ = some (.bool false))
    (hx : Blk w x 23 #[.int .i64 0, .int .i64 0]) (hr : Blk w r 36 #[.nilIface]) (hxr : x ≠ r) :
    CallsD Tryz.prog 85 #[.pointer (some ⟨d, 0, none⟩), .pointer (some ⟨x, 0, none⟩), .pointer (some ⟨r, 0, none⟩)] (.panicking ({ v := u, recovered := false } :: older)) w fun e u' w' =>
      e = .returned (.tuple #[]) ∧ u' = .panicking ({ v := u, recovered := true } :: older) ∧ Blk w' x 23 #[.int .i64 0, .int .i64 0] ∧ Blk w' r 36 #[errAt (E n)] ∧ But [x, r] w w' := by
  unfold errAt at *
  obtain ⟨T, x0, rfl⟩ := hu0
  refine callsD_of_wpS Tryz.func85 rfl fun c₀ cs hu => ?_
  apply wpS_seq
  apply wpS_region
  simp [wpOpsS, go_sem, recoverD, hu, Tryz.ntmps85, Exit.thenS]
  refine wpS_of_wp ?_
  have e : (#[Value.pointer (some ⟨d, 0, none⟩), .pointer (some ⟨x, 0, none⟩), .pointer (some ⟨r, 0, none⟩)] ++ ((Array.replicate 8 undef).setIfInBounds 2 (Value.iface T x0)).setIfInBounds 0 (Value.iface T x0)) =
      #[Value.pointer (some ⟨d, 0, none⟩), .pointer (some ⟨x, 0, none⟩), .pointer (some ⟨r, 0, none⟩), .iface T x0, undef, .iface T x0, undef, undef, undef, undef, undef] := rfl
  rw [e]
  have HX := Lib.hid hx
  have HR := Lib.hid hr
  have HT := Lib.hid ht
  have HE := Lib.hid he
  have HB0 := Lib.hid (below_alloc1 w (.cells #[.int .i64 0, .int .i64 0] 23))
  have HN0 := Lib.hid (Blk.new w 23 #[.int .i64 0, .int .i64 0])
  clear e he hx hr ht
  go_wp2_with fail
  generalize w.alloc (.cells #[.int .i64 0, .int .i64 0] 23) = w0 at *
  refine wp_phi_tail (List.take 3 _) (List.drop 3 _) (List.take_append_drop 3 _).symm (fun w' => Below w.heap.size w w' ∧ Blk w' w.heap.size 23 #[.int .i64 0, .int .i64 0]) [(2, PVal (.iface 160 (.pointer (some (E n)))))] [] (by kernel_rfl) (by kernel_rfl) ?_ ?_ ⟨HB0.out.drew, HN0.out⟩ ?_
  · rintro w1' w2' ⟨h1, h2⟩ hb
    exact ⟨h1.trans (hb.mono h1.size), h2.below hb h2.lt⟩
  · simp only [List.mem_singleton, forall_eq]
    exact fun _ _ _ _ _ h => h
  simp only [List.take_succ_cons, List.take_zero, List.drop_succ_cons, List.drop_zero]
  repeat (first | (refine phi_skipK rfl (fun K hK => ?_); simp only [Act.put, List.setIfInBounds_toArray, List.set_cons_succ, List.set_cons_zero]; (try simp only [List.cons_append]); (try simp only [List.nil_append]); apply hK; clear hK K) | (refine phi_pureK rfl rfl (fun K hK => ?_); apply Exists.intro; constructor; (focus (rintro w' ⟨h1, h2⟩; (have c0 := (h2.cell 0).trans rfl; have c1 := (h2.cell 1).trans rfl); first | (go_simp; done) | (go_simp; (try go_bits); (try go_simp); rfl) | go_simp)); simp only [Act.put, List.setIfInBounds_toArray, List.set_cons_succ, List.set_cons_zero]; (try simp only [List.cons_append]); (try simp only [List.nil_append]); apply hK; clear hK K))
  refine phi_partK (PVal (.iface 160 (.pointer (some (E n))))) rfl rfl ⟨_, rfl⟩ ?_ (fun K hK v hv => ?_)
  · rintro w' ⟨h1, h2⟩ _
    unfold gives
    go_simp
    refine (HT.out w' h1 (HE.out.below h1)).mono ?_
    rintro e w'' ⟨rfl, hb⟩
    exact ⟨_, rfl, rfl, trivial, hb⟩
  obtain rfl : v = _ := hv
  simp only [Act.put, List.setIfInBounds_toArray, List.set_cons_succ, List.set_cons_zero]; (try simp only [List.cons_append]); (try simp only [List.nil_append])
  apply hK
  clear hK K
  refine phi_done ?_
  rintro w1 ⟨h1, h2⟩ _
  have hx1 := HX.out.below h1 HX.out.lt
  have hr1 := HR.out.below h1 HR.out.lt
  have HR1 := Lib.hid hr1
  have HB1 := Lib.hid h1
  have cr := (hr1.cell 0).trans rfl
  have fr := hr1.frozen 0
  clear h1 h2 hr1 HT
  refine wpList_store (.tmp 1) (.tmp 8) 23 rfl rfl x 0 _ _ #[.int .i64 0, .int .i64 0] rfl rfl hx1 (by kernel_rfl) (by simp [Value.oneCell']) (by simp) ?_
  intro w2 hx2 ho2
  rw [putCells_all #[.int .i64 0, .int .i64 0] #[.int .i64 0, .int .i64 0] rfl] at hx2
  have hr2 := ho2.blk HR1.out (fun e => hxr e.symm)
  have cr2 := (hr2.cell 0).trans rfl
  have fr2 := hr2.frozen 0
  have HX2 := Lib.hid hx2
  have HR2 := Lib.hid hr2
  have HO2 := Lib.hid ho2
  clear hx2 hr2 ho2 hx1 cr fr
  go_wp2_with fail
  cases c₀
  simp only [bodyPostS, results, Tryz.results85]
  exact ⟨trivial, _, rfl, .tuple #[], by simp, rfl, rfl, HX2.out.far hxr 0 _, HR2.out.set_ 0 _, (((But.of_below HB1.out).only HO2.out (by simp)).set_ r 0 _ (by simp))⟩
theorem tryAct_any (w : World) (E : Nat → Addr) (f : FuncId) (caps : Array Value) (S : List Nat) (R : World → Value → World → Prop) (Q : Nat → World → World → Prop) (hSl : ∀ s ∈ S, s < w.heap.size) (he : ∀ w', But S w w' → Errs w' E) (hRs : ∀ w1 v w2, R w1 v w2 → ∃ v0 v1 : Value, v = .agg #[v0, v1] ∧ v0.oneCell' = true ∧ v1.oneCell' = true) (hcf : ∀ w, (callFunc f caps).run Tryz.prog w = .ok (.enter f caps) w)
    (hdo : ∀ w1, Below w.heap.size w w1 → w1.heap.size = w.heap.size + 3 → Calls Tryz.prog f caps w1 fun e w2 => MayG (R w1) (fun n w2 => Q n w1 w2) E e w2 ∧ But S w1 w2) :
    Calls Tryz.prog 69 #[.func (.func f) #[] caps] w (TryG S R Q E (.agg #[.int .i64 0, .int .i64 0]) w) := by
  have hmf := @run_makeFunc Tryz.prog
  have HE := Lib.hid he
  have HD := Lib.hid hdo
  have HRS := Lib.hid hRs
  have hno : ∀ k, w.heap.size ≤ k → S.contains k = false := fun k hk => by
    rw [Bool.eq_false_iff]
    intro hc
    have := hSl k (List.contains_iff_mem.1 hc)
    omega
  have HNO := Lib.hid hno
  clear he hdo hRs hSl hno
  go_enter_defers Tryz.func69, Tryz.ntmps69
  go_wp2_with fail
  have hb1 : Below w.heap.size w (((w.alloc (.cells #[.int .i64 0, .int .i64 0] 23)).alloc (.cells #[.nilIface] 36)).alloc (.cells #[.bool false] 4)) := below_alloc (below_alloc (below_alloc1 w _) _) _
  refine (HD.out _ hb1 (by simp)).mono ?_
  rintro e w2 ⟨hm, hb2⟩
  have x1 := hb2.blk (((Blk.new w 23 #[.int .i64 0, .int .i64 0]).alloc (.cells #[.nilIface] 36)).alloc (.cells #[.bool false] 4)) (HNO.out _ (Nat.le_refl _))
  have r1 := hb2.blk ((Blk.new (w.alloc (.cells #[.int .i64 0, .int .i64 0] 23)) 36 #[.nilIface]).alloc (.cells #[.bool false] 4)) (HNO.out _ (by simp))
  have d1 := hb2.blk (Blk.new ((w.alloc (.cells #[.int .i64 0, .int .i64 0] 23)).alloc (.cells #[.nilIface] 36)) 4 #[.bool false]) (HNO.out _ (by simp; omega))
  have hs1 : (((w.alloc (.cells #[.int .i64 0, .int .i64 0] 23)).alloc (.cells #[.nilIface] 36)).alloc (.cells #[.bool false] 4)).heap.size = w.heap.size + 3 := by simp
  simp only [World.size_alloc] at r1 d1
  have X1 := Lib.hid x1
  have R1 := Lib.hid r1
  have D1 := Lib.hid d1
  have B1 := Lib.hid hb1
  have B2 := Lib.hid hb2
  have S1 := Lib.hid hs1
  rcases hm with ⟨v, rfl, hR⟩ | ⟨u, n, hn, hS, ⟨T, x0, rfl⟩, htells, rfl⟩
  · obtain ⟨v0, v1, rfl, hv1⟩ := HRS.out _ _ _ hR
    have HR := Lib.hid hR
    have HV1 := Lib.hid (show ∀ u ∈ (#[v0, v1] : Array Value).toList, u.oneCell' = true by simpa using hv1)
    clear x1 r1 d1 hb1 hb2 hs1 hR hv1
    generalize (((w.alloc (.cells #[.int .i64 0, .int .i64 0] 23)).alloc (.cells #[.nilIface] 36)).alloc (.cells #[.bool false] 4)) = w1 at *
    go_wp2_with (refine wpList_store (.tmp 2) (.tmp 7) 23 rfl rfl w.heap.size 0 _ _ #[v0, v1] rfl rfl X1.out ?s0 HV1.out ?s1 ?_)
    case s0 => kernel_rfl
    case s1 => simp
    intro w3 hx3 ho3
    rw [putCells_all #[.int .i64 0, .int .i64 0] #[v0, v1] rfl] at hx3
    have hd3 := ho3.blk D1.out (by omega)
    have hr3 := ho3.blk R1.out (by omega)
    have cd := (hd3.cell 0).trans rfl
    have fd := hd3.frozen 0
    have X4 := Lib.hid (hx3.far (b := w.heap.size + 1 + 1) (by omega) 0 (.bool true))
    have R4 := Lib.hid (hr3.far (b := w.heap.size + 1 + 1) (by omega) 0 (.bool true))
    have D4 := Lib.hid (show Blk (w3.setCell ⟨w.heap.size + 1 + 1, 0, none⟩ (.bool true)) (w.heap.size + 1 + 1) 4 #[.bool true] from hd3.set_ 0 _)
    have O4 := Lib.hid (((But.of_below (S := [w.heap.size, w.heap.size + 1, w.heap.size + 2]) (Below.refl _ w2)).only ho3 (by simp)).set_ (w.heap.size + 1 + 1) 0 (.bool true) (by simp))
    clear hx3 ho3 hd3 hr3
    go_wp2_with (first | (refine wpList_loadS (.tmp 2) 23 rfl rfl w.heap.size 23 #[v0, v1] rfl X4.out _ Tryz.underlying23 rfl ?s2 ?_) | (refine wpList_store (.tmp 2) (.tmp 8) 23 rfl rfl w.heap.size 0 _ _ #[v0, v1] rfl rfl X4.out ?s3 HV1.out ?s4 ?_))
    case s2 => kernel_rfl
    case s3 => kernel_rfl
    case s4 => simp
    clear cd fd
    generalize w3.setCell ⟨w.heap.size + 1 + 1, 0, none⟩ (.bool true) = w4 at *
    intro w5 hx5 ho5
    rw [putCells_all #[v0, v1] #[v0, v1] rfl] at hx5
    have hr5 := ho5.blk R4.out (by omega)
    have hd5 := ho5.blk D4.out (by omega)
    have cr := (hr5.cell 0).trans rfl
    have fr := hr5.frozen 0
    have X6 := Lib.hid (hx5.far (b := w.heap.size + 1) (by omega) 0 .nilIface)
    have R6 := Lib.hid (show Blk (w5.setCell ⟨w.heap.size + 1, 0, none⟩ .nilIface) (w.heap.size + 1) 36 #[.nilIface] from hr5.set_ 0 _)
    have D6 := Lib.hid (hd5.far (b := w.heap.size + 1) (by omega) 0 .nilIface)
    have O6 := Lib.hid ((O4.out.only ho5 (by simp)).set_ (w.heap.size + 1) 0 .nilIface (by simp))
    clear hx5 ho5 hd5 hr5
    go_wp2_with fail
    clear cr fr
    generalize w5.setCell ⟨w.heap.size + 1, 0, none⟩ .nilIface = w6 at *
    refine leaves_cons (f := 85) (args := #[.pointer (some ⟨w.heap.size + 1 + 1, 0, none⟩), .pointer (some ⟨w.heap.size, 0, none⟩), .pointer (some ⟨w.heap.size + 1, 0, none⟩)]) (by simp) (by simp [go_sem]) ?_
    refine (tryAct_idle _ _ _ w6 ((D6.out.cell 0).trans rfl)).mono ?_
    rintro e u' w7 ⟨rfl, rfl, rfl⟩
    have cb := (R6.out.cell 0).trans rfl
    have c0 := (X6.out.cell 0).trans rfl; have c1 := (X6.out.cell 1).trans rfl
    have hfin : TryG S R Q E (.agg #[.int .i64 0, .int .i64 0]) w (.returned (.tuple #[.agg #[v0, v1], .nilIface])) w7 := by
      exact ⟨But.out ((But.of_below B1.out).trans B2.out) O6.out (Nat.le_refl _), w1, w2, S1.out, B1.out, B2.out, O6.out, .inl ⟨_, rfl, HR.out⟩⟩
    have HF := Lib.hid hfin
    clear hfin
    simp [Leaves, settle, results, Tryz.results69, go_sem, c0, c1, cb]
    exact HF.out
  · have cd := (d1.cell 0).trans rfl
    clear x1 r1 d1 hb1 hb2 hs1
    generalize (((w.alloc (.cells #[.int .i64 0, .int .i64 0] 23)).alloc (.cells #[.nilIface] 36)).alloc (.cells #[.bool false] 4)) = w1 at *
    go_wp2_with fail
    have hb := (But.of_below B1.out).trans B2.out
    refine leaves_cons (f := 85) (args := #[.pointer (some ⟨w.heap.size + 1 + 1, 0, none⟩), .pointer (some ⟨w.heap.size, 0, none⟩), .pointer (some ⟨w.heap.size + 1, 0, none⟩)]) (by simp) (by simp [go_sem]) ?_
    refine (tryAct_err _ _ _ w2 E (.iface T x0) n [] ⟨T, x0, rfl⟩ htells (HE.out w2 hb) cd X1.out R1.out (by omega)).mono ?_
    rintro e u' w4 ⟨rfl, rfl, ca, cb, hBut⟩
    have hfin : TryG S R Q E (.agg #[.int .i64 0, .int .i64 0]) w (.returned (.tuple #[.agg #[.int .i64 0, .int .i64 0], errAt (E n)])) w4 := by
      exact ⟨But.out hb (But.wide hBut) (Nat.le_refl _), w1, w2, S1.out, B1.out, B2.out, But.wide hBut, .inr ⟨n, hn, hS, rfl⟩⟩
    have c0 := (ca.cell 0).trans rfl; have c1 := (ca.cell 1).trans rfl
    have cb' := (cb.cell 0).trans rfl
    have HF := Lib.hid hfin
    clear hfin
    unfold errAt at cb' HF
    simp [Leaves, settle, results, Tryz.results69, go_sem, c0, c1, cb']
    exact HF.out
end Go.Proofs.YtgmiockaecklaaaGreatDoor

namespace Go.Proofs.YtgmiockaecklaaaGreatDoor
open Go.RowKit

def digitB (c : UInt8) : Bool := decide (48 ≤ c.toNat) && decide (c.toNat ≤ 57)
def val7 (l : List UInt8) : Nat := l.foldl (fun n c => 10 * n + (c.toNat - 48)) 0
theorem val7_snoc (l : List UInt8) (c : UInt8) : val7 (l ++ [c]) = 10 * val7 l + (c.toNat - 48) := by simp [val7]
/-- may this be a number's digits, by its head? -/
def headB (l : List UInt8) : Bool := !(l == []) && !(decide (1 < l.length) && l.head? == some 48)
/-- a number's digits, as they are read: up to seven of them -/
def digT (l : List UInt8) : Option Nat := if headB l = true ∧ l.all digitB = true then some (val7 (l.take 7)) else none
theorem digitB_le {c : UInt8} (h : digitB c = true) : 48 ≤ c.toNat ∧ c.toNat ≤ 57 := by
  simpa [digitB] using h
theorem val_acc (l : List UInt8) (h : l.all digitB = true) : ∀ a : Nat, l.foldl (fun n c => 10 * n + (c.toNat - 48)) a + 1 ≤ (a + 1) * 10 ^ l.length := by
  induction l with
  | nil => intro a; simp
  | cons x xs ih =>
    intro a
    simp only [List.all_cons, Bool.and_eq_true] at h
    have h1 := digitB_le h.1
    have := ih h.2 (10 * a + (x.toNat - 48))
    rw [List.foldl_cons, List.length_cons, Nat.pow_succ]
    refine Nat.le_trans this ?_
    rw [Nat.mul_comm (10 ^ xs.length) 10, ← Nat.mul_assoc]
    exact Nat.mul_le_mul_right _ (by omega)
theorem val7_lt (l : List UInt8) (h : l.all digitB = true) : val7 l < 10 ^ l.length := by
  have := val_acc l h 0
  rw [Nat.zero_add, Nat.one_mul] at this
  exact this
theorem bs_ne (l : List UInt8) (h : l ≠ []) : (bs l == (⟨#[]⟩ : ByteArray)) = false := by
  show ((bs l).data == (#[] : Array UInt8)) = false
  rw [beq_eq_false_iff_ne]
  intro e
  exact h (by simpa [bs] using e)
theorem bs_get (l : List UInt8) (k : Nat) (hk : k < l.length) : ∀ h, (bs l)[k]'h = l[k] := by
  intro h
  rfl
theorem all_take_snoc (l : List UInt8) (k : Nat) (hk : k < l.length) (h : (l.take k).all digitB = true) : (l.take (k + 1)).all digitB = digitB l[k] := by
  rw [List.take_add_one, List.getElem?_eq_getElem hk, Option.toList_some, List.all_append, h]
  simp
theorem val7_low (l : List UInt8) (k : Nat) (hk : k < l.length) (h7 : k < 7) : val7 ((l.take (k + 1)).take 7) = 10 * val7 ((l.take k).take 7) + (l[k].toNat - 48) := by
  rw [List.take_of_length_le (l := l.take (k + 1)) (by rw [List.length_take]; omega), List.take_of_length_le (l := l.take k) (by rw [List.length_take]; omega), List.take_add_one, List.getElem?_eq_getElem hk, Option.toList_some, val7_snoc]
theorem val7_high (l : List UInt8) (k : Nat) (h7 : 7 ≤ k) : (l.take (k + 1)).take 7 = (l.take k).take 7 := by
  rw [List.take_take, List.take_take, Nat.min_eq_left (by omega), Nat.min_eq_left h7]
theorem val7_bd (l : List UInt8) (k : Nat) (h : (l.take k).all digitB = true) : val7 ((l.take k).take 7) < 10000000 := by
  have h1 := val7_lt ((l.take k).take 7) (by
    rw [List.all_eq_true] at h ⊢
    exact fun x hx => h x (List.mem_of_mem_take hx))
  have h2 : ((l.take k).take 7).length ≤ 7 := by rw [List.length_take]; omega
  have := Nat.pow_le_pow_right (n := 10) (by omega) h2
  omega
theorem not_all {l : List UInt8} {k : Nat} (hk : k < l.length) (h : digitB l[k] = false) : l.all digitB = false := by
  rw [Bool.eq_false_iff]
  intro ha
  rw [List.all_eq_true] at ha
  rw [ha _ (List.getElem_mem hk)] at h
  cases h
end Go.Proofs.YtgmiockaecklaaaGreatDoor

namespace Go.Proofs.YtgmiockaecklaaaGreatDoor
open Go.RowKit Go.Extern.Stop Go.Stop Go.Extern

/-- ends with a value, or panics with the error told -/
def ExR {α : Type} (E : Nat → Addr) (x : Except Nat α) (V : α → Value) (w : World) (e : Ending) (w' : World) : Prop :=
  Below w.heap.size w w' ∧ ((∃ a, x = .ok a ∧ e = .returned (V a)) ∨ ∃ n, x = .error n ∧ n < 14 ∧ e = .panicked (panE E n))
def digX (l : List UInt8) : Except Nat Nat := match digT l with | some n => .ok n | none => .error 3
set_option maxRecDepth 20000 in
theorem digits_any (l : List UInt8) (hl : l.length ≤ 1000000) (w : World) (E : Nat → Addr) (he : Errs w E) :
    Calls Tryz.prog 87 #[.string (bs l)] w (ExR E (digX l) (fun n => .int .i64 (n : Int)) w) := by
  have cE := he.cell 3 (by omega)
  simp only [errVar, errAt, List.getD_cons_zero, List.getD_cons_succ] at cE
  have hsz := bs_size l
  by_cases h0 : l = []
  · subst h0
    have hem : (bs []).toList.isEmpty = true := by rw [bs_toList]; rfl
    go_enter Tryz.func87, Tryz.ntmps87
    go_wp2_with fail
    exact ⟨rfl, Below.refl _ _, .inr ⟨3, rfl, by omega, rfl⟩⟩
  have hpos : 0 < l.length := List.length_pos_iff.2 h0
  have hem : (bs l).toList.isEmpty = false := by
    rw [bs_toList]
    cases l with
    | nil => exact absurd rfl h0
    | cons x xs => rfl
  have hb0 := bs_get l 0 hpos
  have hsi : (0 : Int) < ((bs l).size : Int) := by rw [bs_size]; omega
  by_cases h1 : 1 < l.length ∧ l[0] = 48
  · have HX := Lib.hid (show digX l = .error 3 by
      have : headB l = false := by
        unfold headB
        have e : l.head? = some 48 := by rw [List.head?_eq_getElem?, List.getElem?_eq_getElem hpos, h1.2]
        simp [h1.1, e]
      unfold digX digT
      rw [if_neg (by rw [this]; simp)])
    obtain ⟨hl1, h48⟩ := h1
    have hx1 : ((l[0].toNat : Int) == 48) = true := by rw [h48]; rfl
    have hx2 : (l[0].toNat == 48) = true := by rw [h48]; rfl
    have hl2 : decide ((1 : Int) < ((bs l).size : Int)) = true := by rw [bs_size]; exact decide_eq_true (by omega)
    have hl3 : decide (1 < (bs l).size) = true := by rw [bs_size]; exact decide_eq_true hl1
    clear hsz h48
    go_enter Tryz.func87, Tryz.ntmps87
    go_wp2_with fail
    exact ⟨rfl, Below.refl _ _, .inr ⟨3, HX.out, by omega, rfl⟩⟩
  have HH0 := Lib.hid (show headB l = true by
    unfold headB
    have e : l.head? = some l[0] := by rw [List.head?_eq_getElem?, List.getElem?_eq_getElem hpos]
    rw [e]
    simp only [Bool.and_eq_true, Bool.not_eq_true', beq_eq_false_iff_ne, Bool.and_eq_false_iff, decide_eq_false_iff_not]
    refine ⟨h0, ?_⟩
    by_cases hl1 : 1 < l.length
    · exact .inr (fun he => h1 ⟨hl1, Option.some.inj he⟩)
    · exact .inl hl1)
  by_cases hl1 : 1 < l.length
  · have hl2 : decide ((1 : Int) < ((bs l).size : Int)) = true := by rw [bs_size]; exact decide_eq_true (by omega)
    have hl3 : decide (1 < (bs l).size) = true := by rw [bs_size]; exact decide_eq_true hl1
    have hx1 : ((l[0].toNat : Int) == 48) = false := by
      rw [beq_eq_false_iff_ne]
      intro e
      exact h1 ⟨hl1, UInt8.toNat_inj.1 (by show l[0].toNat = 48; omega)⟩
    have hx2 : (l[0].toNat == 48) = false := by
      rw [beq_eq_false_iff_ne]
      intro e
      exact h1 ⟨hl1, UInt8.toNat_inj.1 e⟩
    clear h1
    go_enter Tryz.func87, Tryz.ntmps87
    go_wp2_with fail
    clear hx1 hx2 hl1 hl2 hl3 hb0 hsi hem h0
    generalize ((l[0].toNat : Int) == 48) = b48
    generalize l[0].toNat = m0
    go_loopw [3, 20] (fun n i wr => ∃ k : Nat, k ≤ l.length ∧ i = .int .i64 k ∧ n = .int .i64 ((val7 ((l.take k).take 7) : Nat) : Int) ∧ (l.take k).all digitB = true ∧ w = wr) (fun _ i _ => l.length - (intOf i).toNat)
    case atStart => exact ⟨0, by omega, rfl, rfl, rfl, rfl⟩
    case round =>
      obtain ⟨k, hk, rfl, rfl, hall, rfl⟩ := hrel
      by_cases hlt : k < l.length
      · have hbk := bs_get l k hlt
        have hki : (k : Int) < ((bs l).size : Int) := by rw [bs_size]; omega
        have HA := Lib.hid (all_take_snoc l k hlt hall)
        have hv := val7_bd l k hall
        have HL := Lib.hid (val7_low l k hlt)
        have HH := Lib.hid (val7_high l k)
        have HNA := Lib.hid (not_all (l := l) hlt)
        have hd1 : decide ((k : Int) < ((bs l).size : Int)) = true := decide_eq_true hki
        by_cases hd : digitB l[k] = true
        · have h48 := digitB_le hd
          have h1 : decide ((l[k].toNat : Int) < 48) = false := decide_eq_false (by omega)
          have h2 : decide ((57 : Int) < (l[k].toNat : Int)) = false := decide_eq_false (by omega)
          have h3 : decide (l[k].toNat < 48) = false := decide_eq_false (by omega)
          have h4 : decide (57 < l[k].toNat) = false := decide_eq_false (by omega)
          rw [hd] at HA
          clear hd hall
          by_cases h7 : k < 7
          · have HL' := Lib.hid (HL.out h7)
            clear HL HH
            generalize val7 ((l.take k).take 7) = V at *
            obtain ⟨y, hy⟩ : ∃ y : Nat, l[k].toNat = 48 + y := ⟨l[k].toNat - 48, by omega⟩
            have hy9 : y ≤ 9 := by omega
            go_wp2_with fail
            go_roundw
            case rel => exact ⟨k + 1, by omega, by simp, by rw [HL'.out]; congr 1; omega, HA.out, by trivial⟩
            all_goals (simp [intOf]; try omega)
          · have e := HH.out (by omega)
            clear HL HH
            rw [← e] at hv ⊢
            have HV := Lib.hid (show val7 ((l.take (k + 1)).take 7) = val7 ((l.take (k + 1)).take 7) from rfl)
            generalize hg : val7 ((l.take (k + 1)).take 7) = V at *
            have HG := Lib.hid hg
            clear hg e
            go_wp2_with fail
            all_goals (go_roundw; (case rel => exact ⟨k + 1, by omega, by simp, by rw [HG.out], HA.out, by trivial⟩); all_goals (simp [intOf]; try omega))
        · have hdf : digitB l[k] = false := by simpa using hd
          have HX := Lib.hid (show digX l = .error 3 by
            unfold digX digT
            rw [if_neg (by rw [HNA.out hdf]; simp)])
          have hor : l[k].toNat < 48 ∨ 48 ≤ l[k].toNat ∧ 57 < l[k].toNat := by
            unfold digitB at hdf
            simp only [Bool.and_eq_false_iff, decide_eq_false_iff_not] at hdf
            omega
          clear hd hdf HL HH HNA HA
          rcases hor with h1 | ⟨h1, h2⟩
          · have d1 : decide ((l[k].toNat : Int) < 48) = true := decide_eq_true (by omega)
            have d2 : decide (l[k].toNat < 48) = true := decide_eq_true h1
            go_wp2_with fail
            exact ⟨rfl, Below.refl _ _, .inr ⟨3, HX.out, by omega, rfl⟩⟩
          · have d1 : decide ((l[k].toNat : Int) < 48) = false := decide_eq_false (by omega)
            have d2 : decide (l[k].toNat < 48) = false := decide_eq_false (by omega)
            have d3 : decide ((57 : Int) < (l[k].toNat : Int)) = true := decide_eq_true (by omega)
            have d4 : decide (57 < l[k].toNat) = true := decide_eq_true h2
            go_wp2_with fail
            exact ⟨rfl, Below.refl _ _, .inr ⟨3, HX.out, by omega, rfl⟩⟩
      · obtain rfl : k = l.length := by omega
        rw [List.take_length] at hall ⊢
        have HX := Lib.hid (show digX l = .ok (val7 (l.take 7)) by
          unfold digX digT
          rw [if_pos ⟨HH0.out, hall⟩])
        have hki : ¬ ((l.length : Int) < ((bs l).size : Int)) := by rw [bs_size]; omega
        go_wp2_with fail
        go_ret
        exact ⟨Below.refl _ _, .inl ⟨_, HX.out, rfl⟩⟩
  · have hl2 : decide ((1 : Int) < ((bs l).size : Int)) = false := by rw [bs_size]; exact decide_eq_false (by omega)
    have hl3 : decide (1 < (bs l).size) = false := by rw [bs_size]; exact decide_eq_false hl1
    clear h1
    go_enter Tryz.func87, Tryz.ntmps87
    go_wp2_with fail
    clear hl1 hl2 hl3 hb0 hsi hem h0
    go_loopw [3, 20] (fun n i wr => ∃ k : Nat, k ≤ l.length ∧ i = .int .i64 k ∧ n = .int .i64 ((val7 ((l.take k).take 7) : Nat) : Int) ∧ (l.take k).all digitB = true ∧ w = wr) (fun _ i _ => l.length - (intOf i).toNat)
    case atStart => exact ⟨0, by omega, rfl, rfl, rfl, rfl⟩
    case round =>
      obtain ⟨k, hk, rfl, rfl, hall, rfl⟩ := hrel
      by_cases hlt : k < l.length
      · have hbk := bs_get l k hlt
        have hki : (k : Int) < ((bs l).size : Int) := by rw [bs_size]; omega
        have HA := Lib.hid (all_take_snoc l k hlt hall)
        have hv := val7_bd l k hall
        have HL := Lib.hid (val7_low l k hlt)
        have HH := Lib.hid (val7_high l k)
        have HNA := Lib.hid (not_all (l := l) hlt)
        have hd1 : decide ((k : Int) < ((bs l).size : Int)) = true := decide_eq_true hki
        by_cases hd : digitB l[k] = true
        · have h48 := digitB_le hd
          have h1 : decide ((l[k].toNat : Int) < 48) = false := decide_eq_false (by omega)
          have h2 : decide ((57 : Int) < (l[k].toNat : Int)) = false := decide_eq_false (by omega)
          have h3 : decide (l[k].toNat < 48) = false := decide_eq_false (by omega)
          have h4 : decide (57 < l[k].toNat) = false := decide_eq_false (by omega)
          rw [hd] at HA
          clear hd hall
          by_cases h7 : k < 7
          · have HL' := Lib.hid (HL.out h7)
            clear HL HH
            generalize val7 ((l.take k).take 7) = V at *
            obtain ⟨y, hy⟩ : ∃ y : Nat, l[k].toNat = 48 + y := ⟨l[k].toNat - 48, by omega⟩
            have hy9 : y ≤ 9 := by omega
            go_wp2_with fail
            go_roundw
            case rel => exact ⟨k + 1, by omega, by simp, by rw [HL'.out]; congr 1; omega, HA.out, by trivial⟩
            all_goals (simp [intOf]; try omega)
          · have e := HH.out (by omega)
            clear HL HH
            rw [← e] at hv ⊢
            have HV := Lib.hid (show val7 ((l.take (k + 1)).take 7) = val7 ((l.take (k + 1)).take 7) from rfl)
            generalize hg : val7 ((l.take (k + 1)).take 7) = V at *
            have HG := Lib.hid hg
            clear hg e
            go_wp2_with fail
            all_goals (go_roundw; (case rel => exact ⟨k + 1, by omega, by simp, by rw [HG.out], HA.out, by trivial⟩); all_goals (simp [intOf]; try omega))
        · have hdf : digitB l[k] = false := by simpa using hd
          have HX := Lib.hid (show digX l = .error 3 by
            unfold digX digT
            rw [if_neg (by rw [HNA.out hdf]; simp)])
          have hor : l[k].toNat < 48 ∨ 48 ≤ l[k].toNat ∧ 57 < l[k].toNat := by
            unfold digitB at hdf
            simp only [Bool.and_eq_false_iff, decide_eq_false_iff_not] at hdf
            omega
          clear hd hdf HL HH HNA HA
          rcases hor with h1 | ⟨h1, h2⟩
          · have d1 : decide ((l[k].toNat : Int) < 48) = true := decide_eq_true (by omega)
            have d2 : decide (l[k].toNat < 48) = true := decide_eq_true h1
            go_wp2_with fail
            exact ⟨rfl, Below.refl _ _, .inr ⟨3, HX.out, by omega, rfl⟩⟩
          · have d1 : decide ((l[k].toNat : Int) < 48) = false := decide_eq_false (by omega)
            have d2 : decide (l[k].toNat < 48) = false := decide_eq_false (by omega)
            have d3 : decide ((57 : Int) < (l[k].toNat : Int)) = true := decide_eq_true (by omega)
            have d4 : decide (57 < l[k].toNat) = true := decide_eq_true h2
            go_wp2_with fail
            exact ⟨rfl, Below.refl _ _, .inr ⟨3, HX.out, by omega, rfl⟩⟩
      · obtain rfl : k = l.length := by omega
        rw [List.take_length] at hall ⊢
        have HX := Lib.hid (show digX l = .ok (val7 (l.take 7)) by
          unfold digX digT
          rw [if_pos ⟨HH0.out, hall⟩])
        have hki : ¬ ((l.length : Int) < ((bs l).size : Int)) := by rw [bs_size]; omega
        go_wp2_with fail
        go_ret
        exact ⟨Below.refl _ _, .inl ⟨_, HX.out, rfl⟩⟩
end Go.Proofs.YtgmiockaecklaaaGreatDoor

namespace Go.Proofs.YtgmiockaecklaaaGreatDoor
open Go.RowKit Go.Extern.Stop Go.Stop Go.Extern

theorem upTo_any (n : Nat) (m : Int) (w : World) (E : Nat → Addr) (he : Errs w E) :
    Calls Tryz.prog 73 #[.int .i64 (n : Int), .int .i64 m] w fun e w' => w = w' ∧ (((n : Int) ≤ m ∧ e = .returned (.tuple #[])) ∨ (m < (n : Int) ∧ e = .panicked (panE E 0))) := by
  have cE := he.cell 0 (by omega)
  simp only [errVar, errAt, List.getD_cons_zero, List.getD_cons_succ] at cE
  by_cases h : m < (n : Int)
  · have d : decide (m < (n : Int)) = true := decide_eq_true h
    have HD := Lib.hid h
    clear h
    go_enter Tryz.func73, Tryz.ntmps73
    go_wp2_with fail
    exact ⟨rfl, rfl, .inr ⟨HD.out, rfl⟩⟩
  · have d : decide (m < (n : Int)) = false := decide_eq_false h
    have HD := Lib.hid (show (n : Int) ≤ m by omega)
    clear h cE
    go_enter Tryz.func73, Tryz.ntmps73
    go_wp2_with fail
    go_end0
    exact ⟨rfl, .inl ⟨HD.out, rfl⟩⟩
/-- what is behind the sign c -/
def afterT (c : UInt8) (l : List UInt8) : Except Nat (List UInt8) := match l with | [] => .error 3 | x :: xs => if x = c then .ok xs else .error 3
theorem afterT_pre (c : UInt8) (l : List UInt8) : (Lib.hasPrefix l [c] = true ∧ afterT c l = .ok (Lib.trimPrefix l [c])) ∨ (Lib.hasPrefix l [c] = false ∧ afterT c l = .error 3) := by
  cases l with
  | nil => exact .inr ⟨rfl, rfl⟩
  | cons x xs =>
    by_cases h : x = c
    · subst h
      refine .inl ⟨by simp [Lib.hasPrefix, List.isPrefixOf], ?_⟩
      unfold afterT Lib.trimPrefix
      dsimp only
      rw [if_pos rfl, if_pos (by simp [Lib.hasPrefix, List.isPrefixOf])]
      rfl
    · refine .inr ⟨?_, ?_⟩
      · simp [Lib.hasPrefix, List.isPrefixOf, Ne.symm h]
      · unfold afterT
        dsimp only
        rw [if_neg h]
theorem after_any (c : UInt8) (l : List UInt8) (w : World) (E : Nat → Addr) (he : Errs w E) :
    Calls Tryz.prog 72 #[.string (bs l), .string ⟨#[c]⟩] w (ExR E (afterT c l) (fun m => .string (bs m)) w) := by
  have cE := he.cell 3 (by omega)
  simp only [errVar, errAt, List.getD_cons_zero, List.getD_cons_succ] at cE
  have HC := Lib.hid (Tryz.strings_CutPrefix (bs l) ⟨#[c]⟩ w)
  rw [show (bs l).data.toList = l from by simp [bs], show (⟨#[c]⟩ : ByteArray).data.toList = [c] from rfl] at HC
  rcases afterT_pre c l with ⟨h1, h2⟩ | ⟨h1, h2⟩
  · rw [h1] at HC
    have HX := Lib.hid h2
    clear h1 h2 cE
    go_enter Tryz.func72, Tryz.ntmps72
    go_wp2_with fail
    refine HC.out.mono ?_
    rintro e w1 ⟨rfl, rfl⟩
    go_wp2_with fail
    go_ret
    exact ⟨Below.refl _ _, .inl ⟨_, HX.out, rfl⟩⟩
  · rw [h1] at HC
    have HX := Lib.hid h2
    clear h1 h2
    go_enter Tryz.func72, Tryz.ntmps72
    go_wp2_with fail
    refine HC.out.mono ?_
    rintro e w1 ⟨rfl, rfl⟩
    go_wp2_with fail
    exact ⟨rfl, Below.refl _ _, .inr ⟨3, HX.out, by omega, rfl⟩⟩
/-- what stands ahead of the first sign c, and behind it -/
def cutT (c : UInt8) : List UInt8 → Option (List UInt8 × List UInt8)
  | [] => none
  | x :: xs => if x = c then some ([], xs) else (cutT c xs).map fun p => (x :: p.1, p.2)
theorem cutT_index (c : UInt8) (l : List UInt8) : (Lib.indexByte l c = -1 ∧ cutT c l = none) ∨ ∃ i : Nat, Lib.indexByte l c = (i : Int) ∧ i < l.length ∧ cutT c l = some (l.take i, l.drop (i + 1)) := by
  induction l with
  | nil => exact .inl ⟨rfl, rfl⟩
  | cons x xs ih =>
    unfold Lib.indexByte cutT
    by_cases h : x = c
    · subst h
      exact .inr ⟨0, by simp, by simp, by simp⟩
    · have hb : (x == c) = false := by rw [beq_eq_false_iff_ne]; exact h
      rw [if_neg h, hb]
      rcases ih with ⟨h1, h2⟩ | ⟨i, h1, h2, h3⟩
      · exact .inl ⟨by rw [h1]; rfl, by rw [h2]; rfl⟩
      · refine .inr ⟨i + 1, ?_, by simp; omega, by rw [h3]; simp⟩
        have hn : (Lib.indexByte xs c == -1) = false := by rw [h1, beq_eq_false_iff_ne]; omega
        simp only [hn, Bool.false_eq_true, if_false]
        rw [h1]; rfl
def cutV (o : Option (List UInt8 × List UInt8)) (l : List UInt8) : Value := match o with | some p => .tuple #[.string (bs p.1), .string (bs p.2), .bool true] | none => .tuple #[.string (bs l), .string (bs []), .bool false]
set_option maxHeartbeats 2000000 in
theorem lcut_any (c : UInt8) (l : List UInt8) (hl : l.length ≤ 1000000) (w : World) :
    Calls Tryz.prog 96 #[.string (bs l), .string ⟨#[c]⟩] w fun e w' => e = .returned (cutV (cutT c l) l) ∧ Below w.heap.size w w' := by
  have HI := Lib.hid (Tryz.stringslite_Index_one (bs l) c w)
  rw [show (bs l).data.toList = l from by simp [bs]] at HI
  rcases cutT_index c l with ⟨h1, h2⟩ | ⟨i, h1, h2, h3⟩
  · rw [h1] at HI
    rw [h2]
    unfold cutV
    clear h1 h2
    go_enter Tryz.func96, Tryz.ntmps96
    go_wp2_with fail
    refine HI.out.mono ?_
    rintro e w1 ⟨rfl, rfl⟩
    go_wp2_with fail
    go_ret3
    exact ⟨rfl, Below.refl _ _⟩
  · rw [h1] at HI
    rw [h3]
    unfold cutV
    have hs := bs_size l
    have c1 : (0 : Int) ≤ (i : Int) := by omega
    have c2 : (i : Int) ≤ ((bs l).size : Int) := by omega
    have c3 : (0 : Int) ≤ (i : Int) + 1 := by omega
    have c4 : (i : Int) + 1 ≤ ((bs l).size : Int) := by omega
    clear h1 h3
    go_enter Tryz.func96, Tryz.ntmps96
    go_wp2_with fail
    refine HI.out.mono ?_
    rintro e w1 ⟨rfl, rfl⟩
    go_wp2_with fail
    go_region
    go_wp2_with fail
    go_ret3
    refine ⟨?_, (Below.refl _ _).drew⟩
    rw [bs_extract, bs_extract, List.drop_zero, Nat.sub_zero, show (l.drop (i + 1)).take (l.length - (i + 1)) = l.drop (i + 1) from List.take_of_length_le (by rw [List.length_drop]; exact Nat.le_refl _)]
    rfl
theorem cut_any (c : UInt8) (l : List UInt8) (hl : l.length ≤ 1000000) (w : World) :
    Calls Tryz.prog 86 #[.string (bs l), .string ⟨#[c]⟩] w fun e w' => e = .returned (cutV (cutT c l) l) ∧ Below w.heap.size w w' := by
  have HI := Lib.hid (lcut_any c l hl w)
  cases hc : cutT c l with
  | none =>
    rw [hc] at HI
    unfold cutV at HI ⊢
    go_enter Tryz.func86, Tryz.ntmps86
    go_wp2_with fail
    refine HI.out.mono ?_
    rintro e w1 ⟨rfl, hb⟩
    have HB := Lib.hid hb
    clear hb
    go_wp2_with fail
    go_ret3
    exact ⟨rfl, HB.out⟩
  | some p =>
    rw [hc] at HI
    unfold cutV at HI ⊢
    go_enter Tryz.func86, Tryz.ntmps86
    go_wp2_with fail
    refine HI.out.mono ?_
    rintro e w1 ⟨rfl, hb⟩
    have HB := Lib.hid hb
    clear hb
    go_wp2_with fail
    go_ret3
    exact ⟨rfl, HB.out⟩
theorem cutT_len {c : UInt8} {l : List UInt8} {p : List UInt8 × List UInt8} (h : cutT c l = some p) : p.1.length + p.2.length < l.length := by
  rcases cutT_index c l with ⟨_, h2⟩ | ⟨i, _, h2, h3⟩
  · rw [h] at h2; cases h2
  · rw [h] at h3
    cases h3
    simp; omega
/-- two numbers with the sign c between -/
def twoT (c : UInt8) (l : List UInt8) : Except Nat (Nat × Nat) :=
  match cutT c l with
  | none => .error 3
  | some p => match digX p.1 with
    | .error n => .error n
    | .ok a => match digX p.2 with
      | .error n => .error n
      | .ok b => .ok (a, b)
theorem two_any (c : UInt8) (l : List UInt8) (hl : l.length ≤ 1000000) (w : World) (E : Nat → Addr) (he : Errs w E) :
    Calls Tryz.prog 71 #[.string (bs l), .string ⟨#[c]⟩] w (ExR E (twoT c l) (fun p => .tuple #[.int .i64 (p.1 : Int), .int .i64 (p.2 : Int)]) w) := by
  have HC := Lib.hid (cut_any c l hl w)
  have HE := Lib.hid he
  cases hc : cutT c l with
  | none =>
    rw [hc] at HC
    unfold cutV at HC
    have HX := Lib.hid (show twoT c l = .error 3 by unfold twoT; rw [hc])
    clear hc he
    go_enter Tryz.func71, Tryz.ntmps71
    go_wp2_with fail
    refine HC.out.mono ?_
    rintro e w1 ⟨rfl, hb⟩
    have HB := Lib.hid hb
    have cE := (HE.out.below hb).cell 3 (by omega)
    simp only [errVar, errAt, List.getD_cons_zero, List.getD_cons_succ] at cE
    clear hb
    go_wp2_with fail
    exact ⟨rfl, HB.out, .inr ⟨3, HX.out, by omega, rfl⟩⟩
  | some p =>
    rw [hc] at HC
    unfold cutV at HC
    have hlen := cutT_len hc
    have HD1 := Lib.hid (fun w he => digits_any p.1 (by omega) w E he)
    have HD2 := Lib.hid (fun w he => digits_any p.2 (by omega) w E he)
    have HX := Lib.hid (show twoT c l = match digX p.1 with | .error n => .error n | .ok a => match digX p.2 with | .error n => .error n | .ok b => .ok (a, b) by unfold twoT; rw [hc])
    clear hc he hlen
    go_enter Tryz.func71, Tryz.ntmps71
    go_wp2_with fail
    refine HC.out.mono ?_
    rintro e w1 ⟨rfl, hb⟩
    have HB := Lib.hid hb
    clear hb
    go_wp2_with fail
    refine (HD1.out w1 (HE.out.below HB.out)).mono ?_
    rintro e w2 ⟨hb2, ⟨a, ha, rfl⟩ | ⟨n, ha, hn, rfl⟩⟩
    · have HB2 := Lib.hid (HB.out.trans (hb2.mono HB.out.size))
      have HA := Lib.hid ha
      clear hb2 ha
      go_wp2_with fail
      refine (HD2.out w2 (HE.out.below HB2.out)).mono ?_
      rintro e w3 ⟨hb3, ⟨b, hb', rfl⟩ | ⟨n, hb', hn, rfl⟩⟩
      · have HB3 := Lib.hid (HB2.out.trans (hb3.mono HB2.out.size))
        have HA' := Lib.hid hb'
        clear hb3 hb'
        go_wp2_with fail
        go_ret2
        exact ⟨HB3.out, .inl ⟨(a, b), by rw [HX.out, HA.out, HA'.out], rfl⟩⟩
      · have HB3 := Lib.hid (HB2.out.trans (hb3.mono HB2.out.size))
        have HA' := Lib.hid hb'
        have HN := Lib.hid hn
        clear hb3 hb' hn
        unfold panE errAt
        go_wp2_with fail
        exact ⟨rfl, HB3.out, .inr ⟨n, by rw [HX.out, HA.out, HA'.out], HN.out, rfl⟩⟩
    · have HB2 := Lib.hid (HB.out.trans (hb2.mono HB.out.size))
      have HA := Lib.hid ha
      have HN := Lib.hid hn
      clear hb2 ha hn
      unfold panE errAt
      go_wp2_with fail
      exact ⟨rfl, HB2.out, .inr ⟨n, by rw [HX.out, HA.out], HN.out, rfl⟩⟩
end Go.Proofs.YtgmiockaecklaaaGreatDoor

namespace Go.Proofs.YtgmiockaecklaaaGreatDoor
open Go.RowKit Go.Extern.Stop Go.Stop Go.Extern

def limX (n : Nat) (m : Nat) : Except Nat Unit := if n ≤ m then .ok () else .error 0
def toNodeT (s : List UInt8) : Except Nat Nat := (afterT 110 s).bind fun t => (digX t).bind fun n => (limX n 3).bind fun _ => .ok n
def toActT (s : List UInt8) : Except Nat (Nat × Nat) := (afterT 97 s).bind fun t => (twoT 46 t).bind fun p => (limX p.1 3).bind fun _ => (limX p.2 999999).bind fun _ => .ok p
def toPartT (s : List UInt8) : Except Nat (Nat × Nat) := (afterT 112 s).bind fun t => (twoT 46 t).bind fun p => (limX p.1 3).bind fun _ => (limX p.2 7).bind fun _ => .ok p
def toRegT (s : List UInt8) : Except Nat (Nat × Nat × Nat) :=
  match cutT 47 s with
  | none => .error 3
  | some c => (afterT 97 c.1).bind fun t => (twoT 46 t).bind fun p => (digX c.2).bind fun r => (limX p.1 3).bind fun _ => (limX p.2 999999).bind fun _ => (limX r 5).bind fun _ => .ok (p.1, p.2, r)
theorem bind_ok {α β : Type} {x : Except Nat α} {f : α → Except Nat β} {a : α} (h : x = .ok a) : x.bind f = f a := by rw [h]; rfl
theorem bind_error {α β : Type} {x : Except Nat α} {f : α → Except Nat β} {n : Nat} (h : x = .error n) : x.bind f = .error n := by rw [h]; rfl
theorem limX_ok {n m : Nat} (h : (n : Int) ≤ (m : Int)) : limX n m = .ok () := by unfold limX; rw [if_pos (by omega)]
theorem limX_error {n m : Nat} (h : (m : Int) < (n : Int)) : limX n m = .error 0 := by unfold limX; rw [if_neg (by omega)]
theorem afterT_len {c : UInt8} {l m : List UInt8} (h : afterT c l = .ok m) : m.length ≤ l.length := by
  unfold afterT at h
  split at h
  · cases h
  · split at h
    · cases h; simp
    · cases h
theorem toAct1_any (s : List UInt8) (hs : s.length ≤ 1000000) (b : Nat) (w : World) (E : Nat → Addr) (he : Errs w E) (hb : Blk w b 9 #[.string (bs s)]) :
    Calls Tryz.prog 70 #[.pointer (some ⟨b, 0, none⟩)] w (ExR E (toActT s) (fun p => .agg #[.int .i64 (p.1 : Int), .int .i64 (p.2 : Int)]) w) := by
  have hb0 := below_alloc1 w (.cells #[.int .i64 0, .int .i64 0] 23)
  have c0 := ((hb.alloc (.cells #[.int .i64 0, .int .i64 0] 23)).cell 0).trans rfl
  have HE := Lib.hid he
  have B0 := Lib.hid hb0
  have N0 := Lib.hid (Blk.new w 23 #[.int .i64 0, .int .i64 0])
  clear hb he hb0
  go_enter Tryz.func70, Tryz.ntmps70
  go_wp2_with fail
  generalize w.alloc (.cells #[.int .i64 0, .int .i64 0] 23) = w0 at *
  refine (after_any 97 s w0 E (HE.out.below B0.out)).mono ?_
  rintro e w1 ⟨hb, ⟨t, ha, rfl⟩ | ⟨n, ha, hn, rfl⟩⟩
  case inr =>
    have HB := Lib.hid (B0.out.trans (hb.mono B0.out.size))
    have HA := Lib.hid ha
    have HN := Lib.hid hn
    clear hb ha hn
    unfold panE errAt
    go_wp2_with fail
    exact ⟨rfl, HB.out, .inr ⟨n, (bind_error HA.out : _), HN.out, rfl⟩⟩
  have B1 := Lib.hid (B0.out.trans (hb.mono B0.out.size))
  have N1 := Lib.hid (N0.out.below hb N0.out.lt)
  have H1 := Lib.hid ha
  have hl := afterT_len ha
  clear hb ha c0
  go_wp2_with fail
  refine (two_any 46 t (by omega) w1 E (HE.out.below B1.out)).mono ?_
  rintro e w2 ⟨hb, ⟨m, ha, rfl⟩ | ⟨n, ha, hn, rfl⟩⟩
  case inr =>
    have HB := Lib.hid (B1.out.trans (hb.mono B1.out.size))
    have HA := Lib.hid ha
    have HN := Lib.hid hn
    clear hb ha hn
    unfold panE errAt
    go_wp2_with fail
    exact ⟨rfl, HB.out, .inr ⟨n, ((bind_ok H1.out).trans (bind_error HA.out) : _), HN.out, rfl⟩⟩
  have B2 := Lib.hid (B1.out.trans (hb.mono B1.out.size))
  have N2 := Lib.hid (N1.out.below hb N1.out.lt)
  have H2 := Lib.hid ha
  clear hb ha hl
  go_wp2_with fail
  refine (upTo_any m.1 3 w2 E (HE.out.below B2.out)).mono ?_
  rintro e w9 ⟨rfl, ⟨hle, rfl⟩ | ⟨hle, rfl⟩⟩
  case inr =>
    have HA := Lib.hid (limX_error hle)
    clear hle
    unfold panE errAt
    go_wp2_with fail
    exact ⟨rfl, B2.out, .inr ⟨0, ((bind_ok H1.out).trans ((bind_ok H2.out).trans (bind_error HA.out)) : _), by omega, rfl⟩⟩
  have H3 := Lib.hid (limX_ok hle)
  clear hle
  go_wp2_with fail
  refine (upTo_any m.2 999999 w2 E (HE.out.below B2.out)).mono ?_
  rintro e w9 ⟨rfl, ⟨hle, rfl⟩ | ⟨hle, rfl⟩⟩
  case inr =>
    have HA := Lib.hid (limX_error hle)
    clear hle
    unfold panE errAt
    go_wp2_with fail
    exact ⟨rfl, B2.out, .inr ⟨0, ((bind_ok H1.out).trans ((bind_ok H2.out).trans ((bind_ok H3.out).trans (bind_error HA.out))) : _), by omega, rfl⟩⟩
  have H4 := Lib.hid (limX_ok hle)
  clear hle
  go_wp2_with (refine wpList_store (.tmp 1) (.tmp 16) 23 rfl rfl w.heap.size 0 _ _ #[.int .i64 (m.1 : Int), .int .i64 (m.2 : Int)] rfl rfl N2.out (by kernel_rfl) (by simp [Value.oneCell']) (by simp) ?_)
  intro w7 hn7 ko7
  have h7 : Blk w7 w.heap.size 23 #[.int .i64 (m.1 : Int), .int .i64 (m.2 : Int)] := hn7
  have q0 := (h7.cell 0).trans rfl
  have q1 := (h7.cell 1).trans rfl
  go_wp2_with fail
  refine bodyPost_ret (v := .agg #[.int .i64 (m.1 : Int), .int .i64 (m.2 : Int)]) (by simp [results, Tryz.results70, go_sem, q0, q1]) rfl ?_
  exact ⟨B2.out.trans (ko7.below (Nat.le_refl _)), .inl ⟨m, (bind_ok H1.out).trans ((bind_ok H2.out).trans ((bind_ok H3.out).trans (bind_ok H4.out))), rfl⟩⟩
theorem toRegT_some {s : List UInt8} {c : List UInt8 × List UInt8} (h : cutT 47 s = some c) : toRegT s = (afterT 97 c.1).bind fun t => (twoT 46 t).bind fun p => (digX c.2).bind fun r => (limX p.1 3).bind fun _ => (limX p.2 999999).bind fun _ => (limX r 5).bind fun _ => .ok (p.1, p.2, r) := by
  unfold toRegT; rw [h]
theorem toRegT_none {s : List UInt8} (h : cutT 47 s = none) : toRegT s = .error 3 := by unfold toRegT; rw [h]
/-- the error's place: 0: none -/
def xbad {α : Type} (x : Except Nat α) : Nat := match x with | .ok _ => 0 | .error n => n + 1
/-- what it gives, or nought -/
def xval {α : Type} (x : Except Nat α) (z : α) : α := match x with | .ok a => a | .error _ => z
def TryX {α : Type} (E : Nat → Addr) (x : Except Nat α) (V : α → Value) (z : α) (w : World) (e : Ending) (w' : World) : Prop :=
  Below w.heap.size w w' ∧ e = .returned (.tuple #[V (xval x z), errV E (xbad x)]) ∧ xbad x ≤ 14
theorem tryX_of {α : Type} {E : Nat → Addr} {x : Except Nat α} {V : α → Value} {z : α} {w w' : World} {e : Ending}
    (h : TryG [] (fun _ v _ => ∃ a, x = .ok a ∧ v = V a) (fun n _ _ => x = .error n) E (V z) w e w') : TryX E x V z w e w' := by
  obtain ⟨h1, h2⟩ := TryG.v (R := fun v _ => ∃ a, x = .ok a ∧ v = V a) (Q := fun n => x = .error n) (fun _ _ _ _ h => h) h
  refine ⟨h1, ?_⟩
  rcases h2 with ⟨v, rfl, a, rfl, rfl⟩ | ⟨n, hn, rfl, rfl⟩
  · exact ⟨rfl, Nat.zero_le _⟩
  · exact ⟨rfl, hn⟩
theorem exR_may {α : Type} {E : Nat → Addr} {x : Except Nat α} {V : α → Value} {w w' : World} {e : Ending} (h : ExR E x V w e w') : MayG (fun v _ => ∃ a, x = .ok a ∧ v = V a) (fun n _ => x = .error n) E e w' ∧ But [] w w' := by
  refine PanR.may (R := fun v _ => ∃ a, x = .ok a ∧ v = V a) (Q := fun n => x = .error n) ⟨h.1, ?_⟩
  rcases h.2 with ⟨a, hx, rfl⟩ | ⟨n, hx, hn, rfl⟩
  · exact .inl ⟨_, rfl, a, hx, rfl⟩
  · exact .inr ⟨n, hn, hx, rfl⟩
theorem toAct_any (s : List UInt8) (hs : s.length ≤ 1000000) (w : World) (E : Nat → Addr) (he : Errs w E) :
    Calls Tryz.prog 42 #[.string (bs s)] w (TryX E (toActT s) (fun p => .agg #[.int .i64 (p.1 : Int), .int .i64 (p.2 : Int)]) (0, 0) w) := by
  have hmf := @run_makeFunc Tryz.prog
  have hb1 := below_alloc (below_alloc1 w (.cells #[.string (bs s)] 9)) (.cells #[.int .i64 0, .int .i64 0] 23)
  have B1 := Lib.hid hb1
  have N1 := Lib.hid ((Blk.new w 9 #[.string (bs s)]).alloc (.cells #[.int .i64 0, .int .i64 0] 23))
  have M1 := Lib.hid (show Blk ((w.alloc (.cells #[.string (bs s)] 9)).alloc (.cells #[.int .i64 0, .int .i64 0] 23)) (w.heap.size + 1) 23 #[.int .i64 0, .int .i64 0] from by
    have := Blk.new (w.alloc (.cells #[.string (bs s)] 9)) 23 #[.int .i64 0, .int .i64 0]
    rwa [World.size_alloc] at this)
  have HE := Lib.hid (fun w' (h : Below w.heap.size w w') => he.below h)
  clear hb1 he
  go_enter Tryz.func42, Tryz.ntmps42
  go_wp2_with fail
  generalize (w.alloc (.cells #[.string (bs s)] 9)).alloc (.cells #[.int .i64 0, .int .i64 0] 23) = w1 at *
  refine (tryAct_any w1 E _ _ [] (fun _ v _ => ∃ a : Nat × Nat, toActT s = .ok a ∧ v = .agg #[.int .i64 (a.1 : Int), .int .i64 (a.2 : Int)]) (fun n _ _ => toActT s = .error n) (by simp) (fun w' h => HE.out w' (B1.out.trans (h.nil_below.mono B1.out.size))) (fun _ v _ h => by obtain ⟨a, _, rfl⟩ := h; exact ⟨_, _, rfl, rfl, rfl⟩) (fun w => by simp [go_sem])
    (fun w2 hb _ => (toAct1_any s hs w.heap.size w2 E (HE.out w2 (B1.out.trans (hb.mono B1.out.size))) (N1.out.below hb N1.out.lt)).mono (fun e w3 h => exR_may h))).mono ?_
  intro e w2 h
  obtain ⟨hb2, rfl, hx⟩ := tryX_of (V := fun p : Nat × Nat => .agg #[.int .i64 (p.1 : Int), .int .i64 (p.2 : Int)]) (z := (0, 0)) h
  have B2 := Lib.hid (B1.out.trans (hb2.mono B1.out.size))
  have HX := Lib.hid hx
  have M2 := Lib.hid (M1.out.below hb2 M1.out.lt)
  clear hb2 h hx
  generalize hv : xval (toActT s) (0, 0) = v at *
  generalize he : errV E (xbad (toActT s)) = ev at *
  have HV := Lib.hid hv
  have HEV := Lib.hid he
  clear hv he
  go_wp2_with (refine wpList_store (.tmp 2) (.tmp 6) 23 rfl rfl (w.heap.size + 1) 0 _ _ #[.int .i64 (v.1 : Int), .int .i64 (v.2 : Int)] rfl rfl M2.out (by kernel_rfl) (by simp [Value.oneCell']) (by simp) ?_)
  intro w7 hn7 ko7
  have h7 : Blk w7 (w.heap.size + 1) 23 #[.int .i64 (v.1 : Int), .int .i64 (v.2 : Int)] := hn7
  have q0 := (h7.cell 0).trans rfl
  have q1 := (h7.cell 1).trans rfl
  go_wp2_with fail
  refine bodyPost_ret (v := .tuple #[.agg #[.int .i64 (v.1 : Int), .int .i64 (v.2 : Int)], ev]) (by simp [results, Tryz.results42, go_sem, q0, q1]) rfl ?_
  exact ⟨B2.out.trans (ko7.below (Nat.le_succ _)), by rw [HV.out, HEV.out], HX.out⟩
end Go.Proofs.YtgmiockaecklaaaGreatDoor

namespace Go.Proofs.YtgmiockaecklaaaGreatDoor
open Go.RowKit Go.Extern.Stop Go.Stop Go.Extern

theorem conv_digit (k : Nat) (w : World) : (convert 3 5 (.int .i64 (48 + (k : Int)))).run Tryz.prog w = .ok (.int .u8 ((UInt8.ofNat (48 + k)).toNat : Int)) w := by
  go_simp
  exact IntKind.wrap_u8 _
set_option maxRecDepth 20000 in
/-- the digits of the document -/
theorem refdig_any (n : Nat) (hn : n ≤ 1000000) (w : World) : Calls Tryz.prog 37 #[.int .i64 (n : Int)] w fun e w' => e = .returned (.string (bs (dec n))) ∧ Below w.heap.size w w' := by
  induction n using Nat.strongRecOn generalizing w with
  | _ n ih =>
    by_cases h : n < 10
    · have d : decide ((n : Int) < 10) = true := decide_eq_true (by omega)
      have d' : decide (n < 10) = true := decide_eq_true h
      have HD := Lib.hid (dec_small h)
      have hc := conv_digit n
      generalize UInt8.ofNat (48 + n) = c at *
      have hby := byt_one w c 5 (0, 0) w.heap.size rfl
      have hs := run_str (P := Tryz.prog) Tryz.underlying110 Tryz.underlying5 Tryz.underlying9 hby
      have HB := Lib.hid (below_alloc1 w (.cells #[.int .u8 (c.toNat : Int)] 5))
      clear ih hby
      go_enter Tryz.func37, Tryz.ntmps37
      go_wp2_with fail
      go_ret
      rw [HD.out]
      exact ⟨rfl, HB.out⟩
    · have d : decide ((n : Int) < 10) = false := decide_eq_false (by omega)
      have d' : decide (n < 10) = false := decide_eq_false h
      have HD := Lib.hid (show dec n = dec (n / 10) ++ [UInt8.ofNat (48 + n % 10)] by rw [dec_def, if_neg h])
      have HI := Lib.hid (ih (n / 10) (by omega) (by omega))
      have hl := (dec_len (n / 10) 5 (by omega)).2
      have hc := conv_digit (n % 10)
      have q1 : (n : Int).tdiv 10 = ((n / 10 : Nat) : Int) := by rw [Int.tdiv_eq_ediv_of_nonneg (by omega)]; omega
      have q2 : (n : Int).tmod 10 = ((n % 10 : Nat) : Int) := by rw [Int.tmod_eq_emod_of_nonneg (by omega)]; omega
      have hn2 : n % 10 < 10 := Nat.mod_lt _ (by omega)
      have hn1 : n / 10 ≤ 100000 := by omega
      generalize UInt8.ofNat (48 + n % 10) = c at *
      generalize dec (n / 10) = D at *
      generalize n / 10 = n1 at *
      generalize n % 10 = n2 at *
      clear ih
      go_enter Tryz.func37, Tryz.ntmps37
      go_wp2_with fail
      have w1 : IntKind.i64.wrap (48 + (n2 : Int)) = 48 + (n2 : Int) := IntWalk.i64_in _ (by omega)
      have w2 : IntKind.i64.wrap (n1 : Int) = (n1 : Int) := IntWalk.i64_in _ (by omega)
      have w3 : IntKind.i64.wrap (n2 : Int) = (n2 : Int) := IntWalk.i64_in _ (by omega)
      refine wp_phi_tail (List.take 10 _) (List.drop 10 _) (List.take_append_drop 10 _).symm (fun w' => Below w.heap.size w w') [(2, PVal (.string (bs D))), (7, PByt [c]), (8, PVal (.string (bs [c])))] [(8, [7])] (by kernel_rfl) (by kernel_rfl) ?_ ?_ (Below.refl _ _).drew ?_
      · intro w1' w2' h1 hb
        exact h1.trans (hb.mono h1.size)
      · simp only [List.mem_cons, List.not_mem_nil, or_false, forall_eq_or_imp, forall_eq]
        exact ⟨fun _ _ _ _ _ h => h, fun w w' v _ hb h => PByt_stays _ w w' v hb h, fun _ _ _ _ _ h => h⟩
      simp only [List.take_succ_cons, List.take_zero, List.drop_succ_cons, List.drop_zero]
      repeat (first | (refine phi_skipK rfl (fun K hK => ?_); simp only [Act.put, List.setIfInBounds_toArray, List.set_cons_succ, List.set_cons_zero]; (try simp only [List.cons_append]); (try simp only [List.nil_append]); apply hK; clear hK K) | (refine phi_pureK rfl rfl (fun K hK => ?_); apply Exists.intro; constructor; (focus (rintro w' h1; (skip); first | (go_simp; done) | (go_simp; (try go_bits); (try go_simp); rfl) | go_simp)); simp only [Act.put, List.setIfInBounds_toArray, List.set_cons_succ, List.set_cons_zero]; (try simp only [List.cons_append]); (try simp only [List.nil_append]); apply hK; clear hK K))
      refine phi_partK (PVal (.string (bs D))) rfl rfl ⟨_, rfl⟩ ?_ (fun K hK v hv => ?_)
      · intro w' h1 _
        unfold gives
        go_simp
        refine (HI.out w').mono ?_
        rintro e w'' ⟨rfl, hb⟩
        exact ⟨_, rfl, rfl, trivial, hb⟩
      obtain rfl : v = _ := hv
      simp only [Act.put, List.setIfInBounds_toArray, List.set_cons_succ, List.set_cons_zero]; (try simp only [List.cons_append]); (try simp only [List.nil_append])
      apply hK
      clear hK K
      repeat (first | (refine phi_skipK rfl (fun K hK => ?_); simp only [Act.put, List.setIfInBounds_toArray, List.set_cons_succ, List.set_cons_zero]; (try simp only [List.cons_append]); (try simp only [List.nil_append]); apply hK; clear hK K) | (refine phi_pureK rfl rfl (fun K hK => ?_); apply Exists.intro; constructor; (focus (rintro w' h1; (have h9 := hc w'); first | (go_simp; done) | (go_simp; (try go_bits); (try go_simp); rfl) | go_simp)); simp only [Act.put, List.setIfInBounds_toArray, List.set_cons_succ, List.set_cons_zero]; (try simp only [List.cons_append]); (try simp only [List.nil_append]); apply hK; clear hK K))
      refine phi_partK (PByt [c]) rfl rfl ⟨_, none, 0, rfl⟩ ?_ (fun K hK v hv => ?_)
      · intro w' h1 _
        unfold gives
        go_simp
        exact ⟨⟨_, _, rfl⟩, byt_one w' _ _ _ _ rfl, below_alloc1 _ _⟩
      obtain ⟨p', c', rfl⟩ := hv
      simp only [Act.put, List.setIfInBounds_toArray, List.set_cons_succ, List.set_cons_zero]; (try simp only [List.cons_append]); (try simp only [List.nil_append])
      apply hK
      clear hK K
      refine phi_partK (PVal (.string (bs [c]))) rfl rfl ⟨_, rfl⟩ ?_ (fun K hK v hv => ?_)
      · intro w' h1 hf
        have hby : Byt w' _ [c] := hf (7, fun w => (PByt [c]).fact w (.slice p' [c].length c')) (by simp) (List.contains_iff_mem.1 rfl)
        have hs := run_str (P := Tryz.prog) Tryz.underlying110 Tryz.underlying5 Tryz.underlying9 hby
        rw [show ([c] : List UInt8).length = 1 from rfl] at hs
        clear hf hby
        unfold gives
        go_simp
        exact ⟨rfl, trivial, Below.refl _ _⟩
      obtain rfl : v = _ := hv
      simp only [Act.put, List.setIfInBounds_toArray, List.set_cons_succ, List.set_cons_zero]; (try simp only [List.cons_append]); (try simp only [List.nil_append])
      apply hK
      clear hK K
      repeat (first | (refine phi_skipK rfl (fun K hK => ?_); simp only [Act.put, List.setIfInBounds_toArray, List.set_cons_succ, List.set_cons_zero]; (try simp only [List.cons_append]); (try simp only [List.nil_append]); apply hK; clear hK K) | (refine phi_pureK rfl rfl (fun K hK => ?_); apply Exists.intro; constructor; (focus (rintro w' h1; (have s1 := run_str_add (P := Tryz.prog) w' D [c] (by simp; omega)); first | (go_simp; done) | (go_simp; (try go_bits); (try go_simp); rfl) | go_simp)); simp only [Act.put, List.setIfInBounds_toArray, List.set_cons_succ, List.set_cons_zero]; (try simp only [List.cons_append]); (try simp only [List.nil_append]); apply hK; clear hK K))
      refine phi_done ?_
      rintro w1 h1 _
      have HB := Lib.hid h1
      clear h1
      go_wp2_with fail
      go_ret
      rw [HD.out]
      exact ⟨rfl, HB.out⟩

def actS (a b : Nat) : List UInt8 := 97 :: (dec a ++ 46 :: dec b)
theorem refact_any (a b : Nat) (ha : a ≤ 1000000) (hb : b ≤ 1000000) (w : World) : Calls Tryz.prog 36 #[actV (a : Int) (b : Int)] w fun e w' => e = .returned (.string (bs (actS a b))) ∧ Below w.heap.size w w' := by
  have hb1 := below_alloc1 w (.cells #[.int .i64 (a : Int), .int .i64 (b : Int)] 23)
  have HB := Lib.hid hb1
  have HN := Lib.hid (Blk.new w 23 #[.int .i64 (a : Int), .int .i64 (b : Int)])
  have la := (dec_len a 6 (by omega)).2
  have lb := (dec_len b 6 (by omega)).2
  have HDa := Lib.hid (fun w => refdig_any a ha w)
  have HDb := Lib.hid (fun w => refdig_any b hb w)
  unfold actS actV
  clear hb1 ha hb
  generalize dec a = A at *
  generalize dec b = B at *
  go_enter Tryz.func36, Tryz.ntmps36
  go_wp2_with fail
  generalize w.alloc (.cells #[.int .i64 (a : Int), .int .i64 (b : Int)] 23) = w1 at *
  refine wp_phi_tail (List.take 9 _) (List.drop 9 _) (List.take_append_drop 9 _).symm (fun w' => Below w.heap.size w w' ∧ Blk w' w.heap.size 23 #[.int .i64 (a : Int), .int .i64 (b : Int)]) [(2, PVal (.string (bs A))), (7, PVal (.string (bs B)))] [] (by kernel_rfl) (by kernel_rfl) ?_ ?_ ⟨HB.out.drew, HN.out⟩ ?_
  · rintro w1' w2' ⟨h1, h2⟩ hb
    exact ⟨h1.trans (hb.mono h1.size), h2.below hb h2.lt⟩
  · simp only [List.mem_cons, List.not_mem_nil, or_false, forall_eq_or_imp, forall_eq]
    exact ⟨fun _ _ _ _ _ h => h, fun _ _ _ _ _ h => h⟩
  simp only [List.take_succ_cons, List.take_zero, List.drop_succ_cons, List.drop_zero]
  repeat (first | (refine phi_skipK rfl (fun K hK => ?_); simp only [Act.put, List.setIfInBounds_toArray, List.set_cons_succ, List.set_cons_zero]; (try simp only [List.cons_append]); (try simp only [List.nil_append]); apply hK; clear hK K) | (refine phi_pureK rfl rfl (fun K hK => ?_); apply Exists.intro; constructor; (focus (rintro w' ⟨h1, h2⟩; (have c0 := (h2.cell 0).trans rfl; have c1 := (h2.cell 1).trans rfl); first | (go_simp; done) | (go_simp; (try go_bits); (try go_simp); rfl) | go_simp)); simp only [Act.put, List.setIfInBounds_toArray, List.set_cons_succ, List.set_cons_zero]; (try simp only [List.cons_append]); (try simp only [List.nil_append]); apply hK; clear hK K))
  refine phi_partK (PVal (.string (bs A))) rfl rfl ⟨_, rfl⟩ ?_ (fun K hK v hv => ?_)
  · rintro w' ⟨h1, h2⟩ _
    unfold gives
    go_simp
    refine (HDa.out w').mono ?_
    rintro e w'' ⟨rfl, hb⟩
    exact ⟨_, rfl, rfl, trivial, hb⟩
  obtain rfl : v = _ := hv
  simp only [Act.put, List.setIfInBounds_toArray, List.set_cons_succ, List.set_cons_zero]; (try simp only [List.cons_append]); (try simp only [List.nil_append])
  apply hK
  clear hK K
  repeat (first | (refine phi_skipK rfl (fun K hK => ?_); simp only [Act.put, List.setIfInBounds_toArray, List.set_cons_succ, List.set_cons_zero]; (try simp only [List.cons_append]); (try simp only [List.nil_append]); apply hK; clear hK K) | (refine phi_pureK rfl rfl (fun K hK => ?_); apply Exists.intro; constructor; (focus (rintro w' ⟨h1, h2⟩; (have c0 := (h2.cell 0).trans rfl; have c1 := (h2.cell 1).trans rfl; have s1 : (Op.stringOp .add ⟨#[97]⟩ (bs A)).run Tryz.prog w' = .ok (.string (bs (97 :: A))) w' := run_str_add w' [97] A (by simp; omega); have s2 : (Op.stringOp .add (bs (97 :: A)) ⟨#[46]⟩).run Tryz.prog w' = .ok (.string (bs (97 :: (A ++ [46])))) w' := run_str_add w' (97 :: A) [46] (by simp; omega)); first | (go_simp; done) | (go_simp; (try go_bits); (try go_simp); rfl) | go_simp)); simp only [Act.put, List.setIfInBounds_toArray, List.set_cons_succ, List.set_cons_zero]; (try simp only [List.cons_append]); (try simp only [List.nil_append]); apply hK; clear hK K))
  refine phi_partK (PVal (.string (bs B))) rfl rfl ⟨_, rfl⟩ ?_ (fun K hK v hv => ?_)
  · rintro w' ⟨h1, h2⟩ _
    unfold gives
    go_simp
    refine (HDb.out w').mono ?_
    rintro e w'' ⟨rfl, hb⟩
    exact ⟨_, rfl, rfl, trivial, hb⟩
  obtain rfl : v = _ := hv
  simp only [Act.put, List.setIfInBounds_toArray, List.set_cons_succ, List.set_cons_zero]; (try simp only [List.cons_append]); (try simp only [List.nil_append])
  apply hK
  clear hK K
  repeat (first | (refine phi_skipK rfl (fun K hK => ?_); simp only [Act.put, List.setIfInBounds_toArray, List.set_cons_succ, List.set_cons_zero]; (try simp only [List.cons_append]); (try simp only [List.nil_append]); apply hK; clear hK K) | (refine phi_pureK rfl rfl (fun K hK => ?_); apply Exists.intro; constructor; (focus (rintro w' ⟨h1, h2⟩; (have s2 : (Op.stringOp .add (bs (97 :: (A ++ [46]))) (bs B)).run Tryz.prog w' = .ok (.string (bs (97 :: (A ++ [46] ++ B)))) w' := run_str_add w' (97 :: (A ++ [46])) B (by simp; omega)); first | (go_simp; done) | (go_simp; (try go_bits); (try go_simp); rfl) | go_simp)); simp only [Act.put, List.setIfInBounds_toArray, List.set_cons_succ, List.set_cons_zero]; (try simp only [List.cons_append]); (try simp only [List.nil_append]); apply hK; clear hK K))
  refine phi_done ?_
  rintro w2 ⟨h1, h2⟩ _
  have HB2 := Lib.hid h1
  clear h1 h2
  go_wp2_with fail
  go_ret
  exact ⟨rfl, HB2.out⟩
end Go.Proofs.YtgmiockaecklaaaGreatDoor

namespace Go.Proofs.YtgmiockaecklaaaGreatDoor
open Go.RowKit

theorem dec_all (n : Nat) : (dec n).all digitB = true := by
  induction n using Nat.strongRecOn with
  | _ n ih =>
    rw [dec_def]
    split
    · rename_i h
      simp only [List.all_cons, List.all_nil, Bool.and_true, digitB, Bool.and_eq_true, decide_eq_true_eq, UInt8.toNat_ofNat']
      omega
    · rename_i h
      rw [List.all_append, ih (n / 10) (by omega)]
      simp only [List.all_cons, List.all_nil, Bool.and_true, Bool.true_and, digitB, Bool.and_eq_true, decide_eq_true_eq, UInt8.toNat_ofNat']
      omega
theorem dec_val (n : Nat) : val7 (dec n) = n := by
  induction n using Nat.strongRecOn with
  | _ n ih =>
    rw [dec_def]
    split
    · rename_i h
      simp only [val7, List.foldl_cons, List.foldl_nil, UInt8.toNat_ofNat']
      omega
    · rename_i h
      rw [val7_snoc, ih (n / 10) (by omega), UInt8.toNat_ofNat']
      omega
theorem dec_ne (n : Nat) : dec n ≠ [] := by
  rw [dec_def]
  split <;> simp
theorem dec_head (n : Nat) (h : 1 ≤ n) : (dec n).head? ≠ some 48 := by
  induction n using Nat.strongRecOn with
  | _ n ih =>
    rw [dec_def]
    split
    · rename_i h10
      simp only [List.head?_cons, ne_eq, Option.some.injEq]
      intro e
      have := congrArg UInt8.toNat e
      rw [UInt8.toNat_ofNat'] at this
      simp at this
      omega
    · rename_i h10
      have h1 := ih (n / 10) (by omega) (by omega)
      cases hd : dec (n / 10) with
      | nil => exact absurd hd (dec_ne _)
      | cons x xs => rw [hd] at h1; simpa using h1
theorem dec_headB (n : Nat) : headB (dec n) = true := by
  unfold headB
  simp only [Bool.and_eq_true, Bool.not_eq_true', beq_eq_false_iff_ne, Bool.and_eq_false_iff, decide_eq_false_iff_not]
  refine ⟨dec_ne n, ?_⟩
  by_cases h : n < 10
  · exact .inl (by rw [dec_small h]; simp)
  · exact .inr (dec_head n (by omega))
theorem digX_dec (n : Nat) (h : n < 10000000) : digX (dec n) = .ok n := by
  unfold digX digT
  rw [if_pos ⟨dec_headB n, dec_all n⟩, List.take_of_length_le (by have := (dec_len n 6 (by omega)).2; omega), dec_val]
theorem all_notin {l : List UInt8} (h : l.all digitB = true) {c : UInt8} (hc : digitB c = false) : c ∉ l := by
  intro hm
  rw [List.all_eq_true] at h
  rw [h c hm] at hc
  cases hc
theorem cutT_at (c : UInt8) (l m : List UInt8) (h : c ∉ l) : cutT c (l ++ c :: m) = some (l, m) := by
  induction l with
  | nil => simp [cutT]
  | cons x xs ih =>
    simp only [List.mem_cons, not_or] at h
    simp [cutT, Ne.symm h.1, ih h.2]
theorem cutT_none (c : UInt8) (l : List UInt8) (h : c ∉ l) : cutT c l = none := by
  induction l with
  | nil => rfl
  | cons x xs ih =>
    simp only [List.mem_cons, not_or] at h
    simp [cutT, Ne.symm h.1, ih h.2]
theorem twoT_dec (a b : Nat) (ha : a < 10000000) (hb : b < 10000000) : twoT 46 (dec a ++ 46 :: dec b) = .ok (a, b) := by
  unfold twoT
  rw [cutT_at 46 _ _ (all_notin (dec_all a) (by decide))]
  simp only [digX_dec a ha, digX_dec b hb]
theorem limX_yes {n m : Nat} (h : n ≤ m) : limX n m = .ok () := by unfold limX; rw [if_pos h]
theorem toActT_act (a b : Nat) (ha : a < 4) (hb : b < 1000000) : toActT (actS a b) = .ok (a, b) := by
  unfold toActT actS
  rw [bind_ok (a := dec a ++ 46 :: dec b) (by simp [afterT]), bind_ok (twoT_dec a b (by omega) (by omega)), bind_ok (limX_yes (by omega)), bind_ok (limX_yes (by omega))]
theorem toPartT_part (a p : Nat) (ha : a < 4) (hp : p < 8) : toPartT (112 :: (dec a ++ 46 :: dec p)) = .ok (a, p) := by
  unfold toPartT
  rw [bind_ok (a := dec a ++ 46 :: dec p) (by simp [afterT]), bind_ok (twoT_dec a p (by omega) (by omega)), bind_ok (limX_yes (by omega)), bind_ok (limX_yes (by omega))]
theorem act_no47 (a b : Nat) : (47 : UInt8) ∉ actS a b := by
  unfold actS
  simp only [List.mem_cons, List.mem_append, not_or]
  exact ⟨by decide, all_notin (dec_all a) (by decide), by decide, all_notin (dec_all b) (by decide)⟩
theorem toRegT_reg (a b r : Nat) (ha : a < 4) (hb : b < 1000000) (hr : r < 6) : toRegT (actS a b ++ 47 :: dec r) = .ok (a, b, r) := by
  rw [toRegT_some (cutT_at 47 _ _ (act_no47 a b))]
  unfold actS
  rw [bind_ok (a := dec a ++ 46 :: dec b) (by simp [afterT]), bind_ok (twoT_dec a b (by omega) (by omega)), bind_ok (digX_dec r (by omega)), bind_ok (limX_yes (by omega)), bind_ok (limX_yes (by omega)), bind_ok (limX_yes (by omega))]
theorem toRegT_act (a b : Nat) : toRegT (actS a b) = .error 3 := toRegT_none (cutT_none 47 _ (act_no47 a b))
theorem toPartT_act (a b : Nat) : toPartT (actS a b) = .error 3 := by
  unfold toPartT actS
  exact bind_error (by simp [afterT])
theorem toNodeT_act (a b : Nat) : toNodeT (actS a b) = .error 3 := by
  unfold toNodeT actS
  exact bind_error (by simp [afterT])
theorem toActT_reg (a b r : Nat) (ha : a < 4) : toActT (actS a b ++ 47 :: dec r) = .error 3 := by
  unfold toActT actS
  rw [bind_ok (a := dec a ++ 46 :: (dec b ++ 47 :: dec r)) (by simp [afterT])]
  refine bind_error ?_
  unfold twoT
  rw [cutT_at 46 _ _ (all_notin (dec_all a) (by decide))]
  simp only [digX_dec a (by omega)]
  have : digX (dec b ++ 47 :: dec r) = .error 3 := by
    unfold digX digT
    rw [if_neg]
    intro h
    have h2 := h.2
    rw [List.all_append] at h2
    simp [digitB] at h2
  rw [this]
/-- unlike things have unlike texts -/
theorem act_inj {a b a' b' : Nat} (h : a < 4) (h2 : b < 1000000) (h' : a' < 4) (h2' : b' < 1000000) : actS a b = actS a' b' ↔ a = a' ∧ b = b' := by
  refine ⟨fun e => ?_, fun ⟨e1, e2⟩ => by rw [e1, e2]⟩
  have := (toActT_act a b h h2).symm.trans ((congrArg toActT e).trans (toActT_act a' b' h' h2'))
  simpa using this
theorem reg_inj {a b r a' b' r' : Nat} (h : a < 4) (h2 : b < 1000000) (h3 : r < 6) (h' : a' < 4) (h2' : b' < 1000000) (h3' : r' < 6) : actS a b ++ 47 :: dec r = actS a' b' ++ 47 :: dec r' ↔ a = a' ∧ b = b' ∧ r = r' := by
  refine ⟨fun e => ?_, fun ⟨e1, e2, e3⟩ => by rw [e1, e2, e3]⟩
  have := (toRegT_reg a b r h h2 h3).symm.trans ((congrArg toRegT e).trans (toRegT_reg a' b' r' h' h2' h3'))
  simpa using this
theorem part_inj {a p a' p' : Nat} (h : a < 4) (h2 : p < 8) (h' : a' < 4) (h2' : p' < 8) : (112 : UInt8) :: (dec a ++ 46 :: dec p) = 112 :: (dec a' ++ 46 :: dec p') ↔ a = a' ∧ p = p' := by
  refine ⟨fun e => ?_, fun ⟨e1, e2⟩ => by rw [e1, e2]⟩
  have := (toPartT_part a p h h2).symm.trans ((congrArg toPartT e).trans (toPartT_part a' p' h' h2'))
  simpa using this
end Go.Proofs.YtgmiockaecklaaaGreatDoor
