/-
  TryM: catch.Try over the struct liaison/api.Message.
  LetterD: package letter reads a row of fields.
  LetterD2: letter.Decode.
-/
import Derived.Test.YtpbgappggmcmgaaDoorTryC
import Derived.Test.YtpbgappggmcmgaaDoorStruct
import Derived.Test.YtpbgappggmcmgaaDoorPhi
import Derived.Test.YtpbgappggmcmgaaDoorLetterE3
import Derived.Test.YtpbgappggmcmgaaDoorToNumW
import Derived.Test.YtpbgappggmcmgaaDoorRetErr
namespace Go.Proofs.YtpbgappggmcmgaaDoor
open Go.RowKit Go.Extern.Stop Go.Stop Go.Extern

/-- nothing panicked: the deferred closure turns nothing -/
theorem tryM_idle (d x r : Nat) (w : World) (hd : w.cell? ⟨d, 0, none⟩ = some (.bool true)) :
    CallsD Tryd.prog 52 #[.pointer (some ⟨d, 0, none⟩), .pointer (some ⟨x, 0, none⟩), .pointer (some ⟨r, 0, none⟩)] .returning w fun e u' w' => e = .returned (.tuple #[]) ∧ u' = .returning ∧ w' = w := by
  refine callsD_of_wpS Tryd.func52 rfl fun c₀ cs hu => ?_
  apply wpS_seq
  apply wpS_region
  simp [wpOpsS, go_sem, recoverD, hu, Tryd.ntmps52, Exit.thenS]
  refine wpS_of_wp ?_
  have e : (#[Value.pointer (some ⟨d, 0, none⟩), .pointer (some ⟨x, 0, none⟩), .pointer (some ⟨r, 0, none⟩)] ++ ((Array.replicate 8 undef).setIfInBounds 2 Value.nilIface).setIfInBounds 0 Value.nilIface) =
      #[Value.pointer (some ⟨d, 0, none⟩), .pointer (some ⟨x, 0, none⟩), .pointer (some ⟨r, 0, none⟩), .nilIface, undef, .nilIface, undef, undef, undef, undef, undef] := rfl
  rw [e]
  clear e
  go_wp2_with fail
  cases c₀
  simp_all [bodyPostS, results, Tryd.results52, Exit.thenS]
/-- what panicked is the result, told -/
theorem tryM_err (d x r : Nat) (w : World) (E : Nat → Addr) (u : Value) (n : Nat) (older : List PanicEntry) (hu0 : ∃ T x, u = .iface T x) (ht : Tells w u E n) (he : Errs w E) (hd : w.cell? ⟨d, 0, none⟩ = some (.bool false))
    (hx : Blk w x 25 #[.int .i64 0, .int .i64 0, .int .i64 0, .int .i64 0, .int .i64 0, .int .i64 0, .int .i64 0, .int .i64 0, .int .i64 0]) (hr : Blk w r 29 #[.nilIface]) (hxr : x ≠ r) :
    CallsD Tryd.prog 52 #[.pointer (some ⟨d, 0, none⟩), .pointer (some ⟨x, 0, none⟩), .pointer (some ⟨r, 0, none⟩)] (.panicking ({ v := u, recovered := false } :: older)) w fun e u' w' =>
      e = .returned (.tuple #[]) ∧ u' = .panicking ({ v := u, recovered := true } :: older) ∧ Blk w' x 25 #[.int .i64 0, .int .i64 0, .int .i64 0, .int .i64 0, .int .i64 0, .int .i64 0, .int .i64 0, .int .i64 0, .int .i64 0] ∧ Blk w' r 29 #[errAt (E n)] ∧ But [x, r] w w' := by
  unfold errAt at *
  obtain ⟨T, x0, rfl⟩ := hu0
  refine callsD_of_wpS Tryd.func52 rfl fun c₀ cs hu => ?_
  apply wpS_seq
  apply wpS_region
  simp [wpOpsS, go_sem, recoverD, hu, Tryd.ntmps52, Exit.thenS]
  refine wpS_of_wp ?_
  have e : (#[Value.pointer (some ⟨d, 0, none⟩), .pointer (some ⟨x, 0, none⟩), .pointer (some ⟨r, 0, none⟩)] ++ ((Array.replicate 8 undef).setIfInBounds 2 (Value.iface T x0)).setIfInBounds 0 (Value.iface T x0)) =
      #[Value.pointer (some ⟨d, 0, none⟩), .pointer (some ⟨x, 0, none⟩), .pointer (some ⟨r, 0, none⟩), .iface T x0, undef, .iface T x0, undef, undef, undef, undef, undef] := rfl
  rw [e]
  have HX := Lib.hid hx
  have HR := Lib.hid hr
  have HT := Lib.hid ht
  have HE := Lib.hid he
  have HB0 := Lib.hid (below_alloc1 w (.cells #[.int .i64 0, .int .i64 0, .int .i64 0, .int .i64 0, .int .i64 0, .int .i64 0, .int .i64 0, .int .i64 0, .int .i64 0] 25))
  have HN0 := Lib.hid (Blk.new w 25 #[.int .i64 0, .int .i64 0, .int .i64 0, .int .i64 0, .int .i64 0, .int .i64 0, .int .i64 0, .int .i64 0, .int .i64 0])
  clear e he hx hr ht
  go_wp2_with fail
  generalize w.alloc (.cells #[.int .i64 0, .int .i64 0, .int .i64 0, .int .i64 0, .int .i64 0, .int .i64 0, .int .i64 0, .int .i64 0, .int .i64 0] 25) = w0 at *
  refine wp_phi_tail (List.take 3 _) (List.drop 3 _) (List.take_append_drop 3 _).symm (fun w' => Below w.heap.size w w' ∧ Blk w' w.heap.size 25 #[.int .i64 0, .int .i64 0, .int .i64 0, .int .i64 0, .int .i64 0, .int .i64 0, .int .i64 0, .int .i64 0, .int .i64 0]) [(2, PVal (.iface 128 (.pointer (some (E n)))))] [] (by kernel_rfl) (by kernel_rfl) ?_ ?_ ⟨HB0.out.drew, HN0.out⟩ ?_
  · rintro w1' w2' ⟨h1, h2⟩ hb
    exact ⟨h1.trans (hb.mono h1.size), h2.below hb h2.lt⟩
  · simp only [List.mem_singleton, forall_eq]
    exact fun _ _ _ _ _ h => h
  simp only [List.take_succ_cons, List.take_zero, List.drop_succ_cons, List.drop_zero]
  repeat (first | (refine phi_skipK rfl (fun K hK => ?_); simp only [Act.put, List.setIfInBounds_toArray, List.set_cons_succ, List.set_cons_zero]; (try simp only [List.cons_append]); (try simp only [List.nil_append]); apply hK; clear hK K) | (refine phi_pureK rfl rfl (fun K hK => ?_); apply Exists.intro; constructor; (focus (rintro w' ⟨h1, h2⟩; (have c0 := (h2.cell 0).trans rfl; have c1 := (h2.cell 1).trans rfl; have c2 := (h2.cell 2).trans rfl; have c3 := (h2.cell 3).trans rfl; have c4 := (h2.cell 4).trans rfl; have c5 := (h2.cell 5).trans rfl; have c6 := (h2.cell 6).trans rfl; have c7 := (h2.cell 7).trans rfl; have c8 := (h2.cell 8).trans rfl); first | (go_simp; done) | (go_simp; (try go_bits); (try go_simp); rfl) | go_simp)); simp only [Act.put, List.setIfInBounds_toArray, List.set_cons_succ, List.set_cons_zero]; (try simp only [List.cons_append]); (try simp only [List.nil_append]); apply hK; clear hK K))
  refine phi_partK (PVal (.iface 128 (.pointer (some (E n))))) rfl rfl ⟨_, rfl⟩ ?_ (fun K hK v hv => ?_)
  · rintro w' ⟨h1, h2⟩ _
    unfold gives
    go_simp
    refine (HT.out w' h1 (HE.out.below h1)).mono ?_
    rintro e w'' ⟨rfl, hb⟩
    exact ⟨_, rfl, rfl, trivial, hb⟩
  obtain rfl : v = _ := hv
  simp only [Act.put, List.setIfInBounds_toArray, List.set_cons_succ, List.set_cons_zero]; (try simp only [List.cons_append]); (try simp only [List.nil_append])
  apply hK
  clear hK K
  refine phi_done ?_
  rintro w1 ⟨h1, h2⟩ _
  have hx1 := HX.out.below h1 HX.out.lt
  have hr1 := HR.out.below h1 HR.out.lt
  have HR1 := Lib.hid hr1
  have HB1 := Lib.hid h1
  have cr := (hr1.cell 0).trans rfl
  have fr := hr1.frozen 0
  clear h1 h2 hr1 HT
  refine wpList_store (.tmp 1) (.tmp 8) 25 rfl rfl x 0 _ _ #[.int .i64 0, .int .i64 0, .int .i64 0, .int .i64 0, .int .i64 0, .int .i64 0, .int .i64 0, .int .i64 0, .int .i64 0] rfl rfl hx1 (by kernel_rfl) (by simp [Value.oneCell']) (by simp) ?_
  intro w2 hx2 ho2
  rw [putCells_all #[.int .i64 0, .int .i64 0, .int .i64 0, .int .i64 0, .int .i64 0, .int .i64 0, .int .i64 0, .int .i64 0, .int .i64 0] #[.int .i64 0, .int .i64 0, .int .i64 0, .int .i64 0, .int .i64 0, .int .i64 0, .int .i64 0, .int .i64 0, .int .i64 0] rfl] at hx2
  have hr2 := ho2.blk HR1.out (fun e => hxr e.symm)
  have cr2 := (hr2.cell 0).trans rfl
  have fr2 := hr2.frozen 0
  have HX2 := Lib.hid hx2
  have HR2 := Lib.hid hr2
  have HO2 := Lib.hid ho2
  clear hx2 hr2 ho2 hx1 cr fr
  go_wp2_with fail
  cases c₀
  simp only [bodyPostS, results, Tryd.results52]
  exact ⟨trivial, _, rfl, .tuple #[], by simp, rfl, rfl, HX2.out.far hxr 0 _, HR2.out.set_ 0 _, (((But.of_below HB1.out).only HO2.out (by simp)).set_ r 0 _ (by simp))⟩
theorem tryM_any (w : World) (E : Nat → Addr) (f : FuncId) (caps : Array Value) (S : List Nat) (R : World → Value → World → Prop) (Q : Nat → World → World → Prop) (hSl : ∀ s ∈ S, s < w.heap.size) (he : ∀ w', But S w w' → Errs w' E) (hRs : ∀ w1 v w2, R w1 v w2 → ∃ v0 v1 v2 v3 v4 v5 v6 v7 v8 : Value, v = .agg #[v0, v1, v2, v3, v4, v5, v6, v7, v8] ∧ v0.oneCell' = true ∧ v1.oneCell' = true ∧ v2.oneCell' = true ∧ v3.oneCell' = true ∧ v4.oneCell' = true ∧ v5.oneCell' = true ∧ v6.oneCell' = true ∧ v7.oneCell' = true ∧ v8.oneCell' = true) (hcf : ∀ w, (callFunc f caps).run Tryd.prog w = .ok (.enter f caps) w)
    (hdo : ∀ w1, Below w.heap.size w w1 → w1.heap.size = w.heap.size + 3 → Calls Tryd.prog f caps w1 fun e w2 => MayG (R w1) (fun n w2 => Q n w1 w2) E e w2 ∧ But S w1 w2) :
    Calls Tryd.prog 35 #[.func (.func f) #[] caps] w (TryG S R Q E (.agg #[.int .i64 0, .int .i64 0, .int .i64 0, .int .i64 0, .int .i64 0, .int .i64 0, .int .i64 0, .int .i64 0, .int .i64 0]) w) := by
  have hmf := @run_makeFunc Tryd.prog
  have HE := Lib.hid he
  have HD := Lib.hid hdo
  have HRS := Lib.hid hRs
  have hno : ∀ k, w.heap.size ≤ k → S.contains k = false := fun k hk => by
    rw [Bool.eq_false_iff]
    intro hc
    have := hSl k (List.contains_iff_mem.1 hc)
    omega
  have HNO := Lib.hid hno
  clear he hdo hRs hSl hno
  go_enter_defers Tryd.func35, Tryd.ntmps35
  go_wp2_with fail
  have hb1 : Below w.heap.size w (((w.alloc (.cells #[.int .i64 0, .int .i64 0, .int .i64 0, .int .i64 0, .int .i64 0, .int .i64 0, .int .i64 0, .int .i64 0, .int .i64 0] 25)).alloc (.cells #[.nilIface] 29)).alloc (.cells #[.bool false] 4)) := below_alloc (below_alloc (below_alloc1 w _) _) _
  refine (HD.out _ hb1 (by simp)).mono ?_
  rintro e w2 ⟨hm, hb2⟩
  have x1 := hb2.blk (((Blk.new w 25 #[.int .i64 0, .int .i64 0, .int .i64 0, .int .i64 0, .int .i64 0, .int .i64 0, .int .i64 0, .int .i64 0, .int .i64 0]).alloc (.cells #[.nilIface] 29)).alloc (.cells #[.bool false] 4)) (HNO.out _ (Nat.le_refl _))
  have r1 := hb2.blk ((Blk.new (w.alloc (.cells #[.int .i64 0, .int .i64 0, .int .i64 0, .int .i64 0, .int .i64 0, .int .i64 0, .int .i64 0, .int .i64 0, .int .i64 0] 25)) 29 #[.nilIface]).alloc (.cells #[.bool false] 4)) (HNO.out _ (by simp))
  have d1 := hb2.blk (Blk.new ((w.alloc (.cells #[.int .i64 0, .int .i64 0, .int .i64 0, .int .i64 0, .int .i64 0, .int .i64 0, .int .i64 0, .int .i64 0, .int .i64 0] 25)).alloc (.cells #[.nilIface] 29)) 4 #[.bool false]) (HNO.out _ (by simp; omega))
  have hs1 : (((w.alloc (.cells #[.int .i64 0, .int .i64 0, .int .i64 0, .int .i64 0, .int .i64 0, .int .i64 0, .int .i64 0, .int .i64 0, .int .i64 0] 25)).alloc (.cells #[.nilIface] 29)).alloc (.cells #[.bool false] 4)).heap.size = w.heap.size + 3 := by simp
  simp only [World.size_alloc] at r1 d1
  have X1 := Lib.hid x1
  have R1 := Lib.hid r1
  have D1 := Lib.hid d1
  have B1 := Lib.hid hb1
  have B2 := Lib.hid hb2
  have S1 := Lib.hid hs1
  rcases hm with ⟨v, rfl, hR⟩ | ⟨u, n, hn, hS, ⟨T, x0, rfl⟩, htells, rfl⟩
  · obtain ⟨v0, v1, v2, v3, v4, v5, v6, v7, v8, rfl, hv1⟩ := HRS.out _ _ _ hR
    have HR := Lib.hid hR
    have HV1 := Lib.hid (show ∀ u ∈ (#[v0, v1, v2, v3, v4, v5, v6, v7, v8] : Array Value).toList, u.oneCell' = true by simpa using hv1)
    clear x1 r1 d1 hb1 hb2 hs1 hR hv1
    generalize (((w.alloc (.cells #[.int .i64 0, .int .i64 0, .int .i64 0, .int .i64 0, .int .i64 0, .int .i64 0, .int .i64 0, .int .i64 0, .int .i64 0] 25)).alloc (.cells #[.nilIface] 29)).alloc (.cells #[.bool false] 4)) = w1 at *
    go_wp2_with (refine wpList_store (.tmp 2) (.tmp 7) 25 rfl rfl w.heap.size 0 _ _ #[v0, v1, v2, v3, v4, v5, v6, v7, v8] rfl rfl X1.out ?s0 HV1.out ?s1 ?_)
    case s0 => kernel_rfl
    case s1 => simp
    intro w3 hx3 ho3
    rw [putCells_all #[.int .i64 0, .int .i64 0, .int .i64 0, .int .i64 0, .int .i64 0, .int .i64 0, .int .i64 0, .int .i64 0, .int .i64 0] #[v0, v1, v2, v3, v4, v5, v6, v7, v8] rfl] at hx3
    have hd3 := ho3.blk D1.out (by omega)
    have hr3 := ho3.blk R1.out (by omega)
    have cd := (hd3.cell 0).trans rfl
    have fd := hd3.frozen 0
    have X4 := Lib.hid (hx3.far (b := w.heap.size + 1 + 1) (by omega) 0 (.bool true))
    have R4 := Lib.hid (hr3.far (b := w.heap.size + 1 + 1) (by omega) 0 (.bool true))
    have D4 := Lib.hid (show Blk (w3.setCell ⟨w.heap.size + 1 + 1, 0, none⟩ (.bool true)) (w.heap.size + 1 + 1) 4 #[.bool true] from hd3.set_ 0 _)
    have O4 := Lib.hid (((But.of_below (S := [w.heap.size, w.heap.size + 1, w.heap.size + 2]) (Below.refl _ w2)).only ho3 (by simp)).set_ (w.heap.size + 1 + 1) 0 (.bool true) (by simp))
    clear hx3 ho3 hd3 hr3
    go_wp2_with (first | (refine wpList_loadS (.tmp 2) 25 rfl rfl w.heap.size 25 #[v0, v1, v2, v3, v4, v5, v6, v7, v8] rfl X4.out _ Tryd.underlying25 rfl ?s2 ?_) | (refine wpList_store (.tmp 2) (.tmp 8) 25 rfl rfl w.heap.size 0 _ _ #[v0, v1, v2, v3, v4, v5, v6, v7, v8] rfl rfl X4.out ?s3 HV1.out ?s4 ?_))
    case s2 => kernel_rfl
    case s3 => kernel_rfl
    case s4 => simp
    clear cd fd
    generalize w3.setCell ⟨w.heap.size + 1 + 1, 0, none⟩ (.bool true) = w4 at *
    intro w5 hx5 ho5
    rw [putCells_all #[v0, v1, v2, v3, v4, v5, v6, v7, v8] #[v0, v1, v2, v3, v4, v5, v6, v7, v8] rfl] at hx5
    have hr5 := ho5.blk R4.out (by omega)
    have hd5 := ho5.blk D4.out (by omega)
    have cr := (hr5.cell 0).trans rfl
    have fr := hr5.frozen 0
    have X6 := Lib.hid (hx5.far (b := w.heap.size + 1) (by omega) 0 .nilIface)
    have R6 := Lib.hid (show Blk (w5.setCell ⟨w.heap.size + 1, 0, none⟩ .nilIface) (w.heap.size + 1) 29 #[.nilIface] from hr5.set_ 0 _)
    have D6 := Lib.hid (hd5.far (b := w.heap.size + 1) (by omega) 0 .nilIface)
    have O6 := Lib.hid ((O4.out.only ho5 (by simp)).set_ (w.heap.size + 1) 0 .nilIface (by simp))
    clear hx5 ho5 hd5 hr5
    go_wp2_with fail
    clear cr fr
    generalize w5.setCell ⟨w.heap.size + 1, 0, none⟩ .nilIface = w6 at *
    refine leaves_cons (f := 52) (args := #[.pointer (some ⟨w.heap.size + 1 + 1, 0, none⟩), .pointer (some ⟨w.heap.size, 0, none⟩), .pointer (some ⟨w.heap.size + 1, 0, none⟩)]) (by simp) (by simp [go_sem]) ?_
    refine (tryM_idle _ _ _ w6 ((D6.out.cell 0).trans rfl)).mono ?_
    rintro e u' w7 ⟨rfl, rfl, rfl⟩
    have cb := (R6.out.cell 0).trans rfl
    have c0 := (X6.out.cell 0).trans rfl; have c1 := (X6.out.cell 1).trans rfl; have c2 := (X6.out.cell 2).trans rfl; have c3 := (X6.out.cell 3).trans rfl; have c4 := (X6.out.cell 4).trans rfl; have c5 := (X6.out.cell 5).trans rfl; have c6 := (X6.out.cell 6).trans rfl; have c7 := (X6.out.cell 7).trans rfl; have c8 := (X6.out.cell 8).trans rfl
    have hfin : TryG S R Q E (.agg #[.int .i64 0, .int .i64 0, .int .i64 0, .int .i64 0, .int .i64 0, .int .i64 0, .int .i64 0, .int .i64 0, .int .i64 0]) w (.returned (.tuple #[.agg #[v0, v1, v2, v3, v4, v5, v6, v7, v8], .nilIface])) w7 := by
      exact ⟨But.out ((But.of_below B1.out).trans B2.out) O6.out (Nat.le_refl _), w1, w2, S1.out, B1.out, B2.out, O6.out, .inl ⟨_, rfl, HR.out⟩⟩
    have HF := Lib.hid hfin
    clear hfin
    simp [Leaves, settle, results, Tryd.results35, go_sem, c0, c1, c2, c3, c4, c5, c6, c7, c8, cb]
    exact HF.out
  · have cd := (d1.cell 0).trans rfl
    clear x1 r1 d1 hb1 hb2 hs1
    generalize (((w.alloc (.cells #[.int .i64 0, .int .i64 0, .int .i64 0, .int .i64 0, .int .i64 0, .int .i64 0, .int .i64 0, .int .i64 0, .int .i64 0] 25)).alloc (.cells #[.nilIface] 29)).alloc (.cells #[.bool false] 4)) = w1 at *
    go_wp2_with fail
    have hb := (But.of_below B1.out).trans B2.out
    refine leaves_cons (f := 52) (args := #[.pointer (some ⟨w.heap.size + 1 + 1, 0, none⟩), .pointer (some ⟨w.heap.size, 0, none⟩), .pointer (some ⟨w.heap.size + 1, 0, none⟩)]) (by simp) (by simp [go_sem]) ?_
    refine (tryM_err _ _ _ w2 E (.iface T x0) n [] ⟨T, x0, rfl⟩ htells (HE.out w2 hb) cd X1.out R1.out (by omega)).mono ?_
    rintro e u' w4 ⟨rfl, rfl, ca, cb, hBut⟩
    have hfin : TryG S R Q E (.agg #[.int .i64 0, .int .i64 0, .int .i64 0, .int .i64 0, .int .i64 0, .int .i64 0, .int .i64 0, .int .i64 0, .int .i64 0]) w (.returned (.tuple #[.agg #[.int .i64 0, .int .i64 0, .int .i64 0, .int .i64 0, .int .i64 0, .int .i64 0, .int .i64 0, .int .i64 0, .int .i64 0], errAt (E n)])) w4 := by
      exact ⟨But.out hb (But.wide hBut) (Nat.le_refl _), w1, w2, S1.out, B1.out, B2.out, But.wide hBut, .inr ⟨n, hn, hS, rfl⟩⟩
    have c0 := (ca.cell 0).trans rfl; have c1 := (ca.cell 1).trans rfl; have c2 := (ca.cell 2).trans rfl; have c3 := (ca.cell 3).trans rfl; have c4 := (ca.cell 4).trans rfl; have c5 := (ca.cell 5).trans rfl; have c6 := (ca.cell 6).trans rfl; have c7 := (ca.cell 7).trans rfl; have c8 := (ca.cell 8).trans rfl
    have cb' := (cb.cell 0).trans rfl
    have HF := Lib.hid hfin
    clear hfin
    unfold errAt at cb' HF
    simp [Leaves, settle, results, Tryd.results35, go_sem, c0, c1, c2, c3, c4, c5, c6, c7, c8, cb']
    exact HF.out
end Go.Proofs.YtpbgappggmcmgaaDoor

namespace Go.Proofs.YtpbgappggmcmgaaDoor
open Go.RowKit Go.Extern.Stop Go.Stop Go.Extern

theorem mustF_nil (w : World) (p : Option Addr) (n c : Nat) : Calls Tryd.prog 38 #[.slice p n c, .nilIface] w fun e w' => e = .returned (.slice p n c) ∧ w = w' := by
  go_enter Tryd.func38, Tryd.ntmps38
  go_wp2_with fail
  refine (check_nil w).mono ?_
  rintro e w' ⟨rfl, rfl⟩
  go_wp2_with fail
  go_ret
  exact ⟨rfl, rfl⟩
theorem mustF_err (w : World) (E : Nat → Addr) (k : Nat) (v : Value) : Calls Tryd.prog 38 #[v, errV E (k + 1)] w fun e w' => e = .panicked (panE E k) ∧ w = w' := by
  have HC := Lib.hid (check_err w E k)
  unfold panE at *
  rw [errV_suc] at *
  unfold errAt at *
  go_enter Tryd.func38, Tryd.ntmps38
  go_wp2_with fail
  refine HC.out.mono ?_
  rintro e w' ⟨rfl, rfl⟩
  go_wp2_with fail
  exact ⟨rfl, rfl, rfl⟩
theorem ptrs_get (g k : Nat) (hk : k < 9) : (ptrs g)[k]? = some (.pointer (some ⟨g, k, none⟩)) :=
  match k, hk with
  | 0, _ => rfl
  | 1, _ => rfl
  | 2, _ => rfl
  | 3, _ => rfl
  | 4, _ => rfl
  | 5, _ => rfl
  | 6, _ => rfl
  | 7, _ => rfl
  | 8, _ => rfl
theorem ivL_set (l : List Int) (j : Nat) (x : Int) : (ivL l).setIfInBounds j (.int .i64 x) = ivL (l.set j x) := by
  unfold ivL
  simp
theorem nine {l : List Int} (h : l.length = 9) : ∃ x0 x1 x2 x3 x4 x5 x6 x7 x8, l = [x0, x1, x2, x3, x4, x5, x6, x7, x8] := by
  match l, h with
  | [x0, x1, x2, x3, x4, x5, x6, x7, x8], _ => exact ⟨x0, x1, x2, x3, x4, x5, x6, x7, x8, rfl⟩
theorem ofL_wf {l : List Int} (h : numsOk l) (hl : l.length = 9) : (ofL l).wf := by
  intro x hx
  rw [l_ofL hl] at hx
  have := h x hx
  unfold inI
  omega
theorem toNumF_le (l : List UInt8) : toNumF l ≤ 9223372036854775807 := by
  unfold toNumF
  split
  · rename_i hc3
    unfold toNumE at hc3
    split at hc3
    · cases hc3
    · split at hc3
      · cases hc3
      · rename_i q
        by_cases h8 : l.length = 8
        · omega
        · have := valB_7 l (by omega)
          omega
  · omega
theorem rowM_bad {fs : List (Int × List UInt8)} {k : Nat} (hk : k < fs.length) {l : List Int} (h : putsF (List.replicate 9 0) (fs.take k) = some l) (hp : putF l fs[k] = none) : rowM fs = none := by
  have h1 := putsF_take (List.replicate 9 0) fs k hk
  rw [h] at h1
  simp only [Option.bind_some, hp] at h1
  have e : fs = fs.take (k + 1) ++ fs.drop (k + 1) := (List.take_append_drop _ _).symm
  unfold rowM
  rw [e, putsF_app, h1]
  rfl
def ReadR (E : Nat → Addr) (fs : List (Int × List UInt8)) (w : World) (e : Ending) (w' : World) : Prop :=
  Below w.heap.size w w' ∧ match rowM fs with | some m => e = .returned (msgV m) | none => e = .panicked (panE E 3)
theorem read_bad {E : Nat → Addr} {fs : List (Int × List UInt8)} {w w' : World} (h : rowM fs = none) (hb : Below w.heap.size w w') : ReadR E fs w (.panicked [{ v := .iface 128 (.pointer (some (E 3))), recovered := false }]) w' := by
  refine ⟨hb, ?_⟩
  rw [h]
  rfl
set_option maxRecDepth 20000 in
set_option maxHeartbeats 4000000 in
theorem read_any (v : Value) (fs : List (Int × List UInt8)) (w : World) (E : Nat → Addr) (h : IdsG w E) (hv : FldL w v fs) (ho : rowOk 0 fs = true) :
    Calls Tryd.prog 37 #[v] w (ReadR E fs w) := by
  have HG := Lib.hid (fun w' (hb : Below w.heap.size w w') => h.below hb)
  have HPL := Lib.hid (fun g w' => places_any g w')
  obtain ⟨p, cap, us, rfl, h1, h2, h3, h4, h5⟩ := hv
  obtain ⟨i0, hi, hz0, hz1, hz2⟩ := info_parts fldInfo
  have H4 := Lib.hid h4
  have H5 := Lib.hid h5
  have HOK := Lib.hid ho
  unfold maxLen at h2
  clear h3 h4 h5 ho h
  have B := Lib.hid (below_alloc (below_alloc1 w (.cells #[.int .i64 0, .int .i64 0, .int .i64 0, .int .i64 0, .int .i64 0, .int .i64 0, .int .i64 0, .int .i64 0, .int .i64 0] 25)) (.cells #[.int .i64 0, .int .i64 0, .int .i64 0, .int .i64 0, .int .i64 0, .int .i64 0, .int .i64 0, .int .i64 0, .int .i64 0] 25))
  have R := Lib.hid ((Blk.new w 25 (ivL (List.replicate 9 0))).alloc (.cells #[.int .i64 0, .int .i64 0, .int .i64 0, .int .i64 0, .int .i64 0, .int .i64 0, .int .i64 0, .int .i64 0, .int .i64 0] 25))
  have M := Lib.hid (show Blk ((w.alloc (.cells #[.int .i64 0, .int .i64 0, .int .i64 0, .int .i64 0, .int .i64 0, .int .i64 0, .int .i64 0, .int .i64 0, .int .i64 0] 25)).alloc (.cells #[.int .i64 0, .int .i64 0, .int .i64 0, .int .i64 0, .int .i64 0, .int .i64 0, .int .i64 0, .int .i64 0, .int .i64 0] 25)) (w.heap.size + 1) 25 (ivL (List.replicate 9 0)) from by
    have := Blk.new (w.alloc (.cells #[.int .i64 0, .int .i64 0, .int .i64 0, .int .i64 0, .int .i64 0, .int .i64 0, .int .i64 0, .int .i64 0, .int .i64 0] 25)) 25 (ivL (List.replicate 9 0))
    rwa [World.size_alloc] at this)
  go_enter Tryd.func37, Tryd.ntmps37
  go_wp2_with fail
  refine (HPL.out _ _).mono ?_
  rintro e w1 ⟨rfl, hb⟩
  have B1 := Lib.hid (B.out.trans (hb.mono B.out.size))
  have R1 := Lib.hid (R.out.below hb R.out.lt)
  have M1 := Lib.hid (M.out.below hb M.out.lt)
  have hs1 : w.heap.size + 1 < w1.heap.size := M1.out.lt
  have B2 := Lib.hid (below_alloc B1.out (.cells #[.pointer none, .pointer none, .pointer none, .pointer none, .pointer none, .pointer none, .pointer none, .pointer none, .pointer none] 51))
  have R2 := Lib.hid (R1.out.alloc (.cells #[.pointer none, .pointer none, .pointer none, .pointer none, .pointer none, .pointer none, .pointer none, .pointer none, .pointer none] 51))
  have M2 := Lib.hid (M1.out.alloc (.cells #[.pointer none, .pointer none, .pointer none, .pointer none, .pointer none, .pointer none, .pointer none, .pointer none, .pointer none] 51))
  clear hb B R M B1 R1 M1
  go_wp2_with (refine wpList_store (.tmp 4) (.tmp 9) 51 rfl rfl w1.heap.size 0 _ _ (ptrs (w.heap.size + 1)) rfl rfl (Blk.new w1 _ _) (by kernel_rfl) (by simp [Value.oneCell', ptrs]) (by simp [ptrs]) ?_)
  intro w7 hn7 ko7
  have hA7 : Blk w7 w1.heap.size 51 (ptrs (w.heap.size + 1)) := hn7
  have A := Lib.hid hA7
  have B := Lib.hid (B2.out.trans (ko7.below (by omega)))
  have R := Lib.hid (ko7.blk R2.out (by omega))
  have M := Lib.hid (ko7.blk M2.out (by omega))
  clear hn7 ko7 hA7 B2 R2 M2
  have HGA := Lib.hid hs1
  clear hs1
  generalize w1.heap.size = ga at *
  go_wp2_with fail
  go_loopw [12] (fun i wr => ∃ (k : Nat) (l : List Int), k ≤ fs.length ∧ i = .int .i64 k ∧ putsF (List.replicate 9 0) (fs.take k) = some l ∧ Blk wr (w.heap.size + 1) 25 (ivL l) ∧ Blk wr w.heap.size 25 (ivL (List.replicate 9 0)) ∧ Blk wr ga 51 (ptrs (w.heap.size + 1)) ∧ Below w.heap.size w wr) (fun i _ => fs.length - (intOf i).toNat)
  case atStart => exact ⟨0, _, by omega, rfl, rfl, M.out, R.out, A.out, B.out⟩
  case round =>
    obtain ⟨k, l, hk, rfl, hps, hM, hR, hA, hbw⟩ := hrel
    have HPS := Lib.hid hps
    have hlen : l.length = 9 := by have := putsF_len _ hps; simpa using this
    have M' := Lib.hid hM
    have R' := Lib.hid hR
    have A' := Lib.hid hA
    clear hps hM hR hA B R M A
    by_cases hlt : k < fs.length
    · obtain ⟨b, off, q, c, rfl, hc1, hc2, hby⟩ := fldL_cell H4.out H5.out hlt
      have g1 := Below.keeps hbw _ _ hc1
      have g2 := Below.keeps hbw _ _ hc2
      have HBY := Lib.hid (hby.keep (Below.keeps hbw))
      have hfo : fieldOk (lastOf 0 (fs.take k)) fs[k] = true ∧ 0 ≤ lastOf 0 (fs.take k) := by
        have e : fs = fs.take (k + 1) ++ fs.drop (k + 1) := (List.take_append_drop _ _).symm
        have h9 := HOK.out
        rw [e, rowOk_app, Bool.and_eq_true] at h9
        have h8 := h9.1
        rw [rowOk_take fs k hlt, Bool.and_eq_true] at h8
        exact ⟨h8.2, rowOk_lastOf _ _ (Int.le_refl _) h8.1⟩
      have htag : 1 ≤ fs[k].1 := by
        have h9 := hfo.1
        unfold fieldOk at h9
        simp only [Bool.and_eq_true, decide_eq_true_eq] at h9
        omega
      have HBAD := Lib.hid (@rowM_bad fs k hlt l HPS.out)
      have HSTEP := Lib.hid (putsF_take (List.replicate 9 0) fs k hlt)
      clear hc1 hc2 hby hfo
      generalize fs[k] = f at *
      obtain ⟨tag, dat⟩ := f
      simp only at g1 g2 HBY htag
      have hbw2 := below_alloc hbw (.cells #[.int .i64 tag, .slice q dat.length c] 57)
      have B2 := Lib.hid hbw2
      have G2 := Lib.hid (HG.out _ hbw2)
      have M2 := Lib.hid (M'.out.alloc (.cells #[.int .i64 tag, .slice q dat.length c] 57))
      have R2 := Lib.hid (R'.out.alloc (.cells #[.int .i64 tag, .slice q dat.length c] 57))
      have A2 := Lib.hid (A'.out.alloc (.cells #[.int .i64 tag, .slice q dat.length c] 57))
      have Y2 := Lib.hid (HBY.out.keep (keep_alloc wr (.cells #[.int .i64 tag, .slice q dat.length c] 57)))
      have e3 := G2.out.errs.cell 3 (by omega)
      simp only [errVar, List.getD_cons_zero, List.getD_cons_succ, errAt] at e3
      clear M' R' A' HBY hbw2
      by_cases c1 : tag ≤ 9
      · have d1 : decide (9 < tag) = false := by simp; omega
        by_cases c2 : dat = []
        · have hno : rowM fs = none := HBAD.out (by unfold putF; rw [if_pos (.inr (.inl c2))])
          have HNO := Lib.hid hno
          have d2 : ((dat.length : Int) == 0) = true := by subst c2; rfl
          clear HBAD HSTEP hno c2
          go_wp2_with fail
          exact ⟨rfl, read_bad HNO.out B2.out⟩
        · have d2 : ((dat.length : Int) == 0) = false := by
            rw [beq_eq_false_iff_ne]
            intro h9
            exact c2 (List.length_eq_zero_iff.1 (by omega))
          have HTN := Lib.hid (fun w' he (hy : Byt w' (.slice q dat.length c) dat) => tonumber_any (.slice q dat.length c) dat w' E he hy)
          go_wp2_with fail
          refine (HTN.out _ (G2.out.errs.on [0, 3] rfl) Y2.out).mono ?_
          rintro e w3 ⟨rfl, hb3⟩
          have B3 := Lib.hid (B2.out.trans (hb3.mono B2.out.size))
          have M3 := Lib.hid (M2.out.below hb3 M2.out.lt)
          have R3 := Lib.hid (R2.out.below hb3 R2.out.lt)
          have A3 := Lib.hid (A2.out.below hb3 A2.out.lt)
          have t1 : w3.cell? ⟨wr.heap.size, 0, none⟩ = some (.int .i64 tag) := by
            refine Below.keeps hb3 _ _ ?_
            go_simp
          have e4 := (HG.out _ B3.out).errs.cell 3 (by omega)
          simp only [errVar, List.getD_cons_zero, List.getD_cons_succ, errAt] at e4
          clear hb3 M2 R2 A2 Y2 e3 g1 g2
          cases hE : toNumE dat with
          | succ en =>
            have hno : rowM fs = none := HBAD.out (by unfold putF; rw [if_pos (.inr (.inr (by rw [hE]; omega)))])
            have HNO := Lib.hid hno
            rw [errV_suc]
            clear HBAD HSTEP hno hE
            go_wp2_with fail
            exact ⟨rfl, read_bad HNO.out B3.out⟩
          | zero =>
            obtain ⟨j, hj⟩ : ∃ j : Nat, tag = (j : Int) + 1 := ⟨(tag - 1).toNat, by omega⟩
            have hj9 : j < 9 := by omega
            have hput : putF l (tag, dat) = some (l.set j (toNumF dat : Int)) := by
              unfold putF
              rw [if_neg (by rw [hlen, hE]; simp only [not_or]; exact ⟨by show ¬ (9 : Int) < tag; omega, c2, by simp⟩)]
              simp only
              rw [show (tag - 1).toNat = j by omega]
            have HST := Lib.hid (show putsF (List.replicate 9 0) (fs.take (k + 1)) = some (l.set j (toNumF dat : Int)) by rw [HSTEP.out, HPS.out]; exact hput)
            rw [errV_zero]
            subst hj
            have hjl : j < l.length := by omega
            have p1 : w3.cell? ⟨ga, j, none⟩ = some (.pointer (some ⟨w.heap.size + 1, j, none⟩)) := by
              rw [A3.out.cell j]
              exact ptrs_get _ j hj9
            have p2 : w3.cell? ⟨w.heap.size + 1, j, none⟩ = some (.int .i64 l[j]) := by
              rw [M3.out.cell j]
              exact ivL_get l j hjl
            have p3 := M3.out.frozen j
            have hw1 : (j : Int) + 1 - 1 = (j : Int) := by omega
            clear hput HBAD HSTEP hE htag
            generalize toNumF dat = x at *
            go_wp2_with fail
            go_roundw
            case rel =>
              refine ⟨k + 1, l.set j (x : Int), by omega, by go_num, HST.out, ?_, ?_, ?_, ?_⟩
              · have := M3.out.set_ j (.int .i64 (x : Int))
                rwa [ivL_set] at this
              · exact R3.out.far (b := w.heap.size + 1) (by omega) j _
              · exact A3.out.far (b := w.heap.size + 1) (by have := HGA.out; omega) j _
              · exact B3.out.trans (((Only.refl (w.heap.size + 1) w3).set_ j _).below (Nat.le_succ _))
            case measure => simp [intOf]; omega
      · have hno : rowM fs = none := HBAD.out (by unfold putF; rw [if_pos (.inl (by rw [hlen]; show (9 : Int) < tag; omega))])
        have HNO := Lib.hid hno
        have d1 : decide (9 < tag) = true := by simp; omega
        clear HBAD HSTEP hno
        go_wp2_with fail
        exact ⟨rfl, read_bad HNO.out B2.out⟩
    · obtain rfl : k = fs.length := by omega
      have hps' := HPS.out
      rw [List.take_of_length_le (Nat.le_refl _)] at hps'
      obtain ⟨l', hl', _, _, hnum⟩ := tagRow_puts fs [] 9 l HOK.out (by simpa using hps')
      rw [List.nil_append] at hl'
      subst hl'
      have hwf := ofL_wf hnum hlen
      have HROW := Lib.hid (show rowM fs = if rightM (ofL l) then some (ofL l) else none by unfold rowM; rw [hps']; rfl)
      have HRI := Lib.hid (fun w' h => lright_any (ofL l) hwf w' E h)
      have HMV := Lib.hid (msgV_ofL hlen)
      obtain ⟨x0, x1, x2, x3, x4, x5, x6, x7, x8, rfl⟩ := nine hlen
      have hM9 : Blk wr (w.heap.size + 1) 25 #[.int .i64 x0, .int .i64 x1, .int .i64 x2, .int .i64 x3, .int .i64 x4, .int .i64 x5, .int .i64 x6, .int .i64 x7, .int .i64 x8] := M'.out
      have n0 := (hM9.cell 0).trans rfl
      have n1 := (hM9.cell 1).trans rfl
      have n2 := (hM9.cell 2).trans rfl
      have n3 := (hM9.cell 3).trans rfl
      have n4 := (hM9.cell 4).trans rfl
      have n5 := (hM9.cell 5).trans rfl
      have n6 := (hM9.cell 6).trans rfl
      have n7 := (hM9.cell 7).trans rfl
      have n8 := (hM9.cell 8).trans rfl
      have G1 := Lib.hid (HG.out _ hbw)
      clear hM9
      rw [HMV.out] at HRI
      change RowKit.Hid (∀ w' : World, IdsG w' E → Calls Tryd.prog 15 #[.agg #[.int .i64 x0, .int .i64 x1, .int .i64 x2, .int .i64 x3, .int .i64 x4, .int .i64 x5, .int .i64 x6, .int .i64 x7, .int .i64 x8]] w' fun e w'' => e = .returned (.bool (rightM (ofL [x0, x1, x2, x3, x4, x5, x6, x7, x8]))) ∧ Below w'.heap.size w' w'') at HRI
      clear hps' hnum hwf HPS
      cases hr : rightM (ofL [x0, x1, x2, x3, x4, x5, x6, x7, x8])
      · rw [hr] at HRI HROW
        have HNO := Lib.hid (show rowM fs = none from HROW.out)
        clear hr HROW
        go_wp2_with fail
        refine (HRI.out _ G1.out).mono ?_
        rintro e w2 ⟨rfl, hb2⟩
        have B2 := Lib.hid (hbw.trans (hb2.mono hbw.size))
        have e3 := (HG.out _ B2.out).errs.cell 3 (by omega)
        simp only [errVar, List.getD_cons_zero, List.getD_cons_succ, errAt] at e3
        clear hb2 n0 n1 n2 n3 n4 n5 n6 n7 n8
        go_wp2_with fail
        exact ⟨rfl, read_bad HNO.out B2.out⟩
      · rw [hr] at HRI HROW
        have HYES := Lib.hid (show rowM fs = some (ofL [x0, x1, x2, x3, x4, x5, x6, x7, x8]) from HROW.out)
        clear hr HROW
        go_wp2_with fail
        refine (HRI.out _ G1.out).mono ?_
        rintro e w2 ⟨rfl, hb2⟩
        have B2 := Lib.hid (hbw.trans (hb2.mono hbw.size))
        have M2 := Lib.hid (M'.out.below hb2 M'.out.lt)
        have R2 := Lib.hid (R'.out.below hb2 R'.out.lt)
        clear hb2 n0 n1 n2 n3 n4 n5 n6 n7 n8 M' R' A'
        have hM9 : Blk w2 (w.heap.size + 1) 25 #[.int .i64 x0, .int .i64 x1, .int .i64 x2, .int .i64 x3, .int .i64 x4, .int .i64 x5, .int .i64 x6, .int .i64 x7, .int .i64 x8] := M2.out
        have n0 := (hM9.cell 0).trans rfl
        have n1 := (hM9.cell 1).trans rfl
        have n2 := (hM9.cell 2).trans rfl
        have n3 := (hM9.cell 3).trans rfl
        have n4 := (hM9.cell 4).trans rfl
        have n5 := (hM9.cell 5).trans rfl
        have n6 := (hM9.cell 6).trans rfl
        have n7 := (hM9.cell 7).trans rfl
        have n8 := (hM9.cell 8).trans rfl
        clear hM9
        go_wp2_with (refine wpList_store (.tmp 2) (.tmp 47) 25 rfl rfl w.heap.size 0 _ _ #[.int .i64 x0, .int .i64 x1, .int .i64 x2, .int .i64 x3, .int .i64 x4, .int .i64 x5, .int .i64 x6, .int .i64 x7, .int .i64 x8] rfl rfl R2.out (by kernel_rfl) (by simp [Value.oneCell']) (by simp [ivL]) ?_)
        intro w8 hn8 ko8
        have h8 : Blk w8 w.heap.size 25 #[.int .i64 x0, .int .i64 x1, .int .i64 x2, .int .i64 x3, .int .i64 x4, .int .i64 x5, .int .i64 x6, .int .i64 x7, .int .i64 x8] := hn8
        have q0 := (h8.cell 0).trans rfl
        have q1 := (h8.cell 1).trans rfl
        have q2 := (h8.cell 2).trans rfl
        have q3 := (h8.cell 3).trans rfl
        have q4 := (h8.cell 4).trans rfl
        have q5 := (h8.cell 5).trans rfl
        have q6 := (h8.cell 6).trans rfl
        have q7 := (h8.cell 7).trans rfl
        have q8 := (h8.cell 8).trans rfl
        have B8 := Lib.hid (B2.out.trans (ko8.below (Nat.le_refl _)))
        clear hn8 ko8 h8 n0 n1 n2 n3 n4 n5 n6 n7 n8
        go_wp2_with fail
        refine bodyPost_ret (v := .agg #[.int .i64 x0, .int .i64 x1, .int .i64 x2, .int .i64 x3, .int .i64 x4, .int .i64 x5, .int .i64 x6, .int .i64 x7, .int .i64 x8]) (by simp [results, Tryd.results37, go_sem, q0, q1, q2, q3, q4, q5, q6, q7, q8]) rfl ?_
        exact ⟨B8.out, by rw [HYES.out]; rfl⟩
end Go.Proofs.YtpbgappggmcmgaaDoor

namespace Go.Proofs.YtpbgappggmcmgaaDoor
open Go.RowKit Go.Extern.Stop Go.Stop Go.Extern

/-- what a row of bytes is, whatever its length -/
def decBE (b : List UInt8) : Nat := if splitE b = 0 then (if (rowM (splitL b)).isSome then 0 else 4) else splitE b
def decBM (b : List UInt8) : Msg := if splitE b = 0 then (rowM (splitL b)).getD msg0 else msg0
set_option maxRecDepth 20000 in
set_option maxHeartbeats 4000000 in
theorem decF_any (b : List UInt8) (v : Value) (g : Nat) (w : World) (E : Nat → Addr) (h : IdsG w E) (hc : w.cell? ⟨g, 0, none⟩ = some v) (hy : Byt w v b) :
    Calls Tryd.prog 36 #[.pointer (some ⟨g, 0, none⟩)] w (PanR E (fun v _ => decBE b = 0 ∧ v = msgV (decBM b)) (fun n => decBE b = n + 1) w) := by
  have HG := Lib.hid (fun w' (hb : Below w.heap.size w w') => h.below hb)
  have HSP := Lib.hid (fun w' (he : Errs w' E) (hy : Byt w' v b) => split_any w' E v b he hy)
  have HY := Lib.hid hy
  have B := Lib.hid (below_alloc1 w (.cells #[.int .i64 0, .int .i64 0, .int .i64 0, .int .i64 0, .int .i64 0, .int .i64 0, .int .i64 0, .int .i64 0, .int .i64 0] 25))
  have N := Lib.hid (Blk.new w 25 #[.int .i64 0, .int .i64 0, .int .i64 0, .int .i64 0, .int .i64 0, .int .i64 0, .int .i64 0, .int .i64 0, .int .i64 0])
  have hc1 := keep_alloc w (.cells #[.int .i64 0, .int .i64 0, .int .i64 0, .int .i64 0, .int .i64 0, .int .i64 0, .int .i64 0, .int .i64 0, .int .i64 0] 25) _ _ hc
  have HY1 := Lib.hid (hy.keep (keep_alloc w (.cells #[.int .i64 0, .int .i64 0, .int .i64 0, .int .i64 0, .int .i64 0, .int .i64 0, .int .i64 0, .int .i64 0, .int .i64 0] 25)))
  clear h hy hc
  go_enter Tryd.func36, Tryd.ntmps36
  go_wp2_with fail
  refine (HSP.out _ (HG.out _ B.out).errs HY1.out).mono ?_
  rintro e w2 ⟨v2, rfl, hf, hb⟩
  have B2 := Lib.hid (B.out.trans (hb.mono B.out.size))
  have N2 := Lib.hid (N.out.below hb N.out.lt)
  have HF := Lib.hid hf
  clear hb hc1 hf B N
  cases hE : splitE b with
  | succ n =>
    have hle := splitE_le b
    have HD := Lib.hid (show decBE b = n + 1 by unfold decBE; rw [hE]; rfl)
    have HM := Lib.hid (fun w' => mustF_err w' E n v2)
    have hn : n < 14 := by omega
    clear hE hle
    have hev : ∃ a, errV E (n + 1) = .iface 128 a := ⟨_, rfl⟩
    obtain ⟨a, hev⟩ := hev
    rw [hev] at HM ⊢
    unfold panE at HM
    go_wp2_with fail
    refine (HM.out _).mono ?_
    rintro e w3 ⟨rfl, rfl⟩
    go_wp2_with fail
    exact ⟨rfl, B2.out, .inr ⟨n, hn, HD.out, rfl⟩⟩
  | zero =>
    obtain ⟨hrr, _⟩ := split_ok hE
    have hok := (right_parts hrr).2
    have HRD := Lib.hid (fun w' h (hf : FldL w' v2 (splitL b)) => read_any v2 (splitL b) w' E h hf hok)
    have HDE := Lib.hid (show decBE b = (if (rowM (splitL b)).isSome then 0 else 4) ∧ decBM b = (rowM (splitL b)).getD msg0 by unfold decBE decBM; rw [hE]; exact ⟨rfl, rfl⟩)
    obtain ⟨p, c, us, rfl, _⟩ := id HF.out
    rw [errV_zero]
    clear hE hrr hok
    go_wp2_with fail
    refine (mustF_nil _ _ _ _).mono ?_
    rintro e w3 ⟨rfl, rfl⟩
    go_wp2_with fail
    refine (HRD.out _ (HG.out _ B2.out) HF.out).mono ?_
    rintro e w3 ⟨hb3, hm⟩
    have B3 := Lib.hid (B2.out.trans (hb3.mono B2.out.size))
    have N3 := Lib.hid (N2.out.below hb3 N2.out.lt)
    clear hb3 N2 B2
    cases hr : rowM (splitL b) with
    | none =>
      rw [hr] at hm
      subst hm
      have HD := Lib.hid (show decBE b = 3 + 1 by rw [HDE.out.1, hr]; rfl)
      clear hr HDE
      unfold panE errAt
      go_wp2_with fail
      exact ⟨rfl, B3.out, .inr ⟨3, by omega, HD.out, rfl⟩⟩
    | some m =>
      rw [hr] at hm
      subst hm
      have HD := Lib.hid (show decBE b = 0 ∧ decBM b = m by rw [HDE.out.1, HDE.out.2, hr]; exact ⟨rfl, rfl⟩)
      clear hr HDE
      unfold msgV
      go_wp2_with (refine wpList_store (.tmp 1) (.tmp 7) 25 rfl rfl w.heap.size 0 _ _ #[.int .i64 m.k, .int .i64 m.f, .int .i64 m.t, .int .i64 m.n, .int .i64 m.s, .int .i64 m.r, .int .i64 m.p, .int .i64 m.q, .int .i64 m.c] rfl rfl N3.out (by kernel_rfl) (by simp [Value.oneCell']) (by simp) ?_)
      intro w8 hn8 ko8
      have h8 : Blk w8 w.heap.size 25 #[.int .i64 m.k, .int .i64 m.f, .int .i64 m.t, .int .i64 m.n, .int .i64 m.s, .int .i64 m.r, .int .i64 m.p, .int .i64 m.q, .int .i64 m.c] := hn8
      have q0 := (h8.cell 0).trans rfl
      have q1 := (h8.cell 1).trans rfl
      have q2 := (h8.cell 2).trans rfl
      have q3 := (h8.cell 3).trans rfl
      have q4 := (h8.cell 4).trans rfl
      have q5 := (h8.cell 5).trans rfl
      have q6 := (h8.cell 6).trans rfl
      have q7 := (h8.cell 7).trans rfl
      have q8 := (h8.cell 8).trans rfl
      have B8 := Lib.hid (B3.out.trans (ko8.below (Nat.le_refl _)))
      clear hn8 ko8 h8
      go_wp2_with fail
      refine bodyPost_ret (v := .agg #[.int .i64 m.k, .int .i64 m.f, .int .i64 m.t, .int .i64 m.n, .int .i64 m.s, .int .i64 m.r, .int .i64 m.p, .int .i64 m.q, .int .i64 m.c]) (by simp [results, Tryd.results36, go_sem, q0, q1, q2, q3, q4, q5, q6, q7, q8]) rfl ?_
      exact ⟨B8.out, .inl ⟨_, rfl, HD.out.1, by rw [HD.out.2]; rfl⟩⟩
set_option maxRecDepth 20000 in
set_option maxHeartbeats 4000000 in
theorem decode_any (b : List UInt8) (v : Value) (w : World) (E : Nat → Addr) (h : IdsG w E) (hy : Byt w v b) :
    Calls Tryd.prog 18 #[v] w fun e w' => e = .returned (.tuple #[msgV (decM b), errV E (decE b)]) ∧ Below w.heap.size w w' := by
  have HG := Lib.hid (fun w' (hb : Below w.heap.size w w') => h.below hb)
  have HY0 := Lib.hid hy
  obtain ⟨p, c, rfl, _, _, _⟩ := id hy
  have B := Lib.hid (below_alloc (below_alloc1 w (.cells #[.slice p b.length c] 27)) (.cells #[.int .i64 0, .int .i64 0, .int .i64 0, .int .i64 0, .int .i64 0, .int .i64 0, .int .i64 0, .int .i64 0, .int .i64 0] 25))
  have X := Lib.hid ((Blk.new w 27 #[.slice p b.length c]).alloc (.cells #[.int .i64 0, .int .i64 0, .int .i64 0, .int .i64 0, .int .i64 0, .int .i64 0, .int .i64 0, .int .i64 0, .int .i64 0] 25))
  have M := Lib.hid (show Blk ((w.alloc (.cells #[.slice p b.length c] 27)).alloc (.cells #[.int .i64 0, .int .i64 0, .int .i64 0, .int .i64 0, .int .i64 0, .int .i64 0, .int .i64 0, .int .i64 0, .int .i64 0] 25)) (w.heap.size + 1) 25 #[.int .i64 0, .int .i64 0, .int .i64 0, .int .i64 0, .int .i64 0, .int .i64 0, .int .i64 0, .int .i64 0, .int .i64 0] from by
    have := Blk.new (w.alloc (.cells #[.slice p b.length c] 27)) 25 #[.int .i64 0, .int .i64 0, .int .i64 0, .int .i64 0, .int .i64 0, .int .i64 0, .int .i64 0, .int .i64 0, .int .i64 0]
    rwa [World.size_alloc] at this)
  have x0 := (X.out.cell 0).trans rfl
  have hmf := @run_makeFunc Tryd.prog
  clear h hy
  by_cases hlen : 1000 < b.length
  · have d1 : decide (1000 < (b.length : Int)) = true := by simp; omega
    have d1' : decide (1000 < b.length) = true := by simp; omega
    have HR := Lib.hid (show decE b = 3 ∧ decM b = msg0 by unfold decE decM; rw [if_pos hlen, if_pos hlen]; exact ⟨rfl, rfl⟩)
    clear hlen hmf
    go_enter Tryd.func18, Tryd.ntmps18
    go_wp2_with fail
    generalize ((w.alloc (.cells #[.slice p b.length c] 27)).alloc (.cells #[.int .i64 0, .int .i64 0, .int .i64 0, .int .i64 0, .int .i64 0, .int .i64 0, .int .i64 0, .int .i64 0, .int .i64 0] 25)) = w1 at *
    refine wp_phiU (fun _ wa wb => Only (w.heap.size + 1) wa wb) (fun wq => Only (w.heap.size + 1) w1 wq) [(2, PSto fun wq => Blk wq (w.heap.size + 1) 25 #[.int .i64 0, .int .i64 0, .int .i64 0, .int .i64 0, .int .i64 0, .int .i64 0, .int .i64 0, .int .i64 0, .int .i64 0])] [] [(2, fun wq => Blk wq (w.heap.size + 1) 25 #[.int .i64 0, .int .i64 0, .int .i64 0, .int .i64 0, .int .i64 0, .int .i64 0, .int .i64 0, .int .i64 0, .int .i64 0])] [] (by kernel_rfl) (by kernel_rfl) ?_ ?_ ?_ ?_ (Only.refl _ _).drew ?_
    · intro p hp w1 w2 h1 h2
      exact h1.trans h2
    · simp only [List.mem_cons, List.not_mem_nil, or_false, forall_eq]
      intro h
      exact absurd rfl h
    · simp only [List.mem_cons, List.not_mem_nil, or_false, forall_eq]
      intro h
      exact absurd rfl h
    · simp only [List.mem_cons, List.not_mem_nil, or_false, forall_eq]
      exact M.out
    repeat (first | (refine phiU_skipK rfl (fun K hK => ?_); simp only [Act.put, List.setIfInBounds_toArray, List.set_cons_succ, List.set_cons_zero]; (try simp only [List.cons_append]); (try simp only [List.nil_append]); apply hK; clear hK K) | (refine phiU_pureK rfl rfl (fun K hK => ?_); apply Exists.intro; constructor; (focus (rintro w' hI; (have hbI := hI.below (Nat.le_succ w.heap.size); have s1 := (HG.out _ (B.out.trans hbI)).errs.cell 2 (by omega); simp only [errVar, errAt, List.getD_cons_zero, List.getD_cons_succ] at s1; clear hI hbI); first | (go_simp; done) | (go_simp; (try go_bits); (try go_simp); rfl) | go_simp)); simp only [Act.put, List.setIfInBounds_toArray, List.set_cons_succ, List.set_cons_zero]; (try simp only [List.cons_append]); (try simp only [List.nil_append]); apply hK; clear hK K))
    refine phiU_partK (PSto fun wq => Blk wq (w.heap.size + 1) 25 #[.int .i64 0, .int .i64 0, .int .i64 0, .int .i64 0, .int .i64 0, .int .i64 0, .int .i64 0, .int .i64 0, .int .i64 0]) rfl rfl ⟨_, rfl⟩ ?_ (fun K hK v hv => ?_)
    · intro wq hI hf hu
      have hm : Blk wq (w.heap.size + 1) 25 #[.int .i64 0, .int .i64 0, .int .i64 0, .int .i64 0, .int .i64 0, .int .i64 0, .int .i64 0, .int .i64 0, .int .i64 0] := hu (2, fun wq => Blk wq (w.heap.size + 1) 25 #[.int .i64 0, .int .i64 0, .int .i64 0, .int .i64 0, .int .i64 0, .int .i64 0, .int .i64 0, .int .i64 0, .int .i64 0]) (by simp) rfl
      exact gives_store (.tmp 2) (.tmp 7) 25 rfl (w.heap.size + 1) 0 _ _ #[.int .i64 0, .int .i64 0, .int .i64 0, .int .i64 0, .int .i64 0, .int .i64 0, .int .i64 0, .int .i64 0, .int .i64 0] rfl rfl hm (by kernel_rfl) (by simp [Value.oneCell']) (by simp) (fun w2 h2 h3 => ⟨rfl, h2, h3⟩)
    obtain rfl : v = _ := hv
    simp only [Act.put, List.setIfInBounds_toArray, List.set_cons_succ, List.set_cons_zero]; (try simp only [List.cons_append]); (try simp only [List.nil_append])
    apply hK
    clear hK K
    repeat (first | (refine phiU_skipK rfl (fun K hK => ?_); simp only [Act.put, List.setIfInBounds_toArray, List.set_cons_succ, List.set_cons_zero]; (try simp only [List.cons_append]); (try simp only [List.nil_append]); apply hK; clear hK K) | (refine phiU_pureK rfl rfl (fun K hK => ?_); apply Exists.intro; constructor; (focus (rintro w' hI; (clear hI); first | (go_simp; done) | (go_simp; (try go_bits); (try go_simp); rfl) | go_simp)); simp only [Act.put, List.setIfInBounds_toArray, List.set_cons_succ, List.set_cons_zero]; (try simp only [List.cons_append]); (try simp only [List.nil_append]); apply hK; clear hK K))
    refine phiU_done ?_
    intro w8 hI hf
    have h8 : Blk w8 (w.heap.size + 1) 25 #[.int .i64 0, .int .i64 0, .int .i64 0, .int .i64 0, .int .i64 0, .int .i64 0, .int .i64 0, .int .i64 0, .int .i64 0] := hf (2, fun wq => (PSto fun wq => Blk wq (w.heap.size + 1) 25 #[.int .i64 0, .int .i64 0, .int .i64 0, .int .i64 0, .int .i64 0, .int .i64 0, .int .i64 0, .int .i64 0, .int .i64 0]).fact wq undef) (by simp) rfl
    have B7 := Lib.hid (B.out.trans (hI.below (Nat.le_succ w.heap.size)))
    clear hf hI
    have q0 := (h8.cell 0).trans rfl
    have q1 := (h8.cell 1).trans rfl
    have q2 := (h8.cell 2).trans rfl
    have q3 := (h8.cell 3).trans rfl
    have q4 := (h8.cell 4).trans rfl
    have q5 := (h8.cell 5).trans rfl
    have q6 := (h8.cell 6).trans rfl
    have q7 := (h8.cell 7).trans rfl
    have q8 := (h8.cell 8).trans rfl
    refine wpList_nil ?_
    go_wp2_with fail
    refine bodyPost_ret (v := .tuple #[.agg #[.int .i64 0, .int .i64 0, .int .i64 0, .int .i64 0, .int .i64 0, .int .i64 0, .int .i64 0, .int .i64 0, .int .i64 0], errAt (E 2)]) (by simp [results, Tryd.results18, go_sem, errAt, q0, q1, q2, q3, q4, q5, q6, q7, q8]) rfl ?_
    exact ⟨by rw [HR.out.1, HR.out.2]; rfl, B7.out⟩
  · have d1 : decide (1000 < (b.length : Int)) = false := by simp; omega
    have d1' : decide (1000 < b.length) = false := by simp; omega
    have HR := Lib.hid (show decE b = decBE b ∧ decM b = decBM b by unfold decE decM; rw [if_neg hlen, if_neg hlen]; exact ⟨rfl, rfl⟩)
    have HF := Lib.hid (fun w' h hc hy => decF_any b (.slice p b.length c) w.heap.size w' E h hc hy)
    clear hlen
    go_enter Tryd.func18, Tryd.ntmps18
    go_wp2_with fail
    generalize ((w.alloc (.cells #[.slice p b.length c] 27)).alloc (.cells #[.int .i64 0, .int .i64 0, .int .i64 0, .int .i64 0, .int .i64 0, .int .i64 0, .int .i64 0, .int .i64 0, .int .i64 0] 25)) = w1 at *
    refine (tryM_any w1 E 36 #[.pointer (some ⟨w.heap.size, 0, none⟩)] [] (fun _ v _ => decBE b = 0 ∧ v = msgV (decBM b)) (fun n _ _ => decBE b = n + 1) (by simp) (fun w2 hb => (HG.out _ (B.out.trans (hb.nil_below.mono B.out.size))).errs) ?_ (fun w => by kernel_rfl) ?_).mono ?_
    · rintro w1 v w2 ⟨_, rfl⟩
      exact ⟨_, _, _, _, _, _, _, _, _, rfl, rfl, rfl, rfl, rfl, rfl, rfl, rfl, rfl, rfl⟩
    · intro w2 hb _
      refine (HF.out w2 (HG.out _ (B.out.trans (hb.mono B.out.size))) ?_ ?_).mono ?_
      · exact ((X.out.below hb X.out.lt).cell 0)
      · exact HY0.out.keep (Below.keeps (B.out.trans (hb.mono B.out.size)))
      · intro e w3 hp
        exact hp.may
    · intro e w2 ht
      obtain ⟨hb2, hor⟩ := TryG.v (fun _ _ _ _ h => h) ht
      have B3 := Lib.hid (B.out.trans (hb2.mono B.out.size))
      have M3 := Lib.hid (M.out.below hb2 M.out.lt)
      clear hb2 ht B M X x0 hmf
      rcases hor with ⟨v, rfl, h0, rfl⟩ | ⟨n, _, hn, rfl⟩
      · have HZ := Lib.hid h0
        clear h0
        generalize hm : decBM b = m at *
        unfold msgV
        go_wp2_with (refine wpList_store (.tmp 2) (.tmp 11) 25 rfl rfl (w.heap.size + 1) 0 _ _ #[.int .i64 m.k, .int .i64 m.f, .int .i64 m.t, .int .i64 m.n, .int .i64 m.s, .int .i64 m.r, .int .i64 m.p, .int .i64 m.q, .int .i64 m.c] rfl rfl M3.out (by kernel_rfl) (by simp [Value.oneCell']) (by simp) ?_)
        intro w8 hn8 ko8
        have h8 : Blk w8 (w.heap.size + 1) 25 #[.int .i64 m.k, .int .i64 m.f, .int .i64 m.t, .int .i64 m.n, .int .i64 m.s, .int .i64 m.r, .int .i64 m.p, .int .i64 m.q, .int .i64 m.c] := hn8
        have q0 := (h8.cell 0).trans rfl
        have q1 := (h8.cell 1).trans rfl
        have q2 := (h8.cell 2).trans rfl
        have q3 := (h8.cell 3).trans rfl
        have q4 := (h8.cell 4).trans rfl
        have q5 := (h8.cell 5).trans rfl
        have q6 := (h8.cell 6).trans rfl
        have q7 := (h8.cell 7).trans rfl
        have q8 := (h8.cell 8).trans rfl
        have B8 := Lib.hid (B3.out.trans (ko8.below (Nat.le_succ _)))
        clear hn8 ko8 h8
        go_wp2_with fail
        refine bodyPost_ret (v := .tuple #[.agg #[.int .i64 m.k, .int .i64 m.f, .int .i64 m.t, .int .i64 m.n, .int .i64 m.s, .int .i64 m.r, .int .i64 m.p, .int .i64 m.q, .int .i64 m.c], .nilIface]) (by simp [results, Tryd.results18, go_sem, q0, q1, q2, q3, q4, q5, q6, q7, q8]) rfl ?_
        exact ⟨by rw [HR.out.1, HR.out.2, HZ.out]; rfl, B8.out⟩
      · have HZ := Lib.hid hn
        clear hn
        unfold errAt
        go_wp2_with (refine wpList_store (.tmp 2) (.tmp 11) 25 rfl rfl (w.heap.size + 1) 0 _ _ #[.int .i64 0, .int .i64 0, .int .i64 0, .int .i64 0, .int .i64 0, .int .i64 0, .int .i64 0, .int .i64 0, .int .i64 0] rfl rfl M3.out (by kernel_rfl) (by simp [Value.oneCell']) (by simp) ?_)
        intro w8 hn8 ko8
        have h8 : Blk w8 (w.heap.size + 1) 25 #[.int .i64 0, .int .i64 0, .int .i64 0, .int .i64 0, .int .i64 0, .int .i64 0, .int .i64 0, .int .i64 0, .int .i64 0] := hn8
        have q0 := (h8.cell 0).trans rfl
        have q1 := (h8.cell 1).trans rfl
        have q2 := (h8.cell 2).trans rfl
        have q3 := (h8.cell 3).trans rfl
        have q4 := (h8.cell 4).trans rfl
        have q5 := (h8.cell 5).trans rfl
        have q6 := (h8.cell 6).trans rfl
        have q7 := (h8.cell 7).trans rfl
        have q8 := (h8.cell 8).trans rfl
        have B8 := Lib.hid (B3.out.trans (ko8.below (Nat.le_succ _)))
        clear hn8 ko8 h8
        go_wp2_with fail
        refine bodyPost_ret (v := .tuple #[.agg #[.int .i64 0, .int .i64 0, .int .i64 0, .int .i64 0, .int .i64 0, .int .i64 0, .int .i64 0, .int .i64 0, .int .i64 0], .iface 128 (.pointer (some (E n)))]) (by simp [results, Tryd.results18, go_sem, q0, q1, q2, q3, q4, q5, q6, q7, q8]) rfl ?_
        have HM0 : decBM b = msg0 := by
          have h9 := HZ.out
          unfold decBE at h9
          unfold decBM
          split at h9
          · rename_i h0
            rw [if_pos h0]
            split at h9
            · cases h9
            · rename_i h1
              cases hr : rowM (splitL b) with
              | none => rfl
              | some m => rw [hr] at h1; exact absurd rfl h1
          · rename_i h0
            rw [if_neg h0]
        exact ⟨by rw [HR.out.1, HR.out.2, HZ.out, HM0]; rfl, B8.out⟩
end Go.Proofs.YtpbgappggmcmgaaDoor
