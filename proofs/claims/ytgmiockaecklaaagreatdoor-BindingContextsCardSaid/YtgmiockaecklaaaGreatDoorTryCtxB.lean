/-
  TryCtx: catch.Try over the struct liaison/api.Context.
-/
import Derived.Test.YtgmiockaecklaaaGreatDoorBA
namespace Go.Proofs.YtgmiockaecklaaaGreatDoor
open Go.RowKit Go.Extern.Stop Go.Stop Go.Extern

/-- nothing panicked: the deferred closure turns nothing -/
theorem tryCtx_idle (d x r : Nat) (w : World) (hd : w.cell? ⟨d, 0, none⟩ = some (.bool true)) :
    CallsD Tryz.prog 68 #[.pointer (some ⟨d, 0, none⟩), .pointer (some ⟨x, 0, none⟩), .pointer (some ⟨r, 0, none⟩)] .returning w fun e u' w' => e = .returned (.tuple #[]) ∧ u' = .returning ∧ w' = w := by
  refine callsD_of_wpS Tryz.func68 rfl fun c₀ cs hu => ?_
  apply wpS_seq
  apply wpS_region
  simp [wpOpsS, go_sem, recoverD, hu, Tryz.ntmps68, Exit.thenS]
  refine wpS_of_wp ?_
  have e : (#[Value.pointer (some ⟨d, 0, none⟩), .pointer (some ⟨x, 0, none⟩), .pointer (some ⟨r, 0, none⟩)] ++ ((Array.replicate 8 undef).setIfInBounds 2 Value.nilIface).setIfInBounds 0 Value.nilIface) =
      #[Value.pointer (some ⟨d, 0, none⟩), .pointer (some ⟨x, 0, none⟩), .pointer (some ⟨r, 0, none⟩), .nilIface, undef, .nilIface, undef, undef, undef, undef, undef] := rfl
  rw [e]
  clear e
  go_wp2_with fail
  cases c₀
  simp_all [bodyPostS, results, Tryz.results68]
/-- what panicked is the result, told -/
theorem tryCtx_err (d x r : Nat) (w : World) (E : Nat → Addr) (u : Value) (n : Nat) (older : List PanicEntry) (hu0 : ∃ T x, u = .iface T x) (ht : Tells w u E n) (he : Errs w E) (hd : w.cell? ⟨d, 0, none⟩ = some (.bool false))
    (hx : Blk w x 26 #[.int .i64 0, .int .i64 0, .int .i64 0, .int .i64 0, .float .f64 0]) (hr : Blk w r 36 #[.nilIface]) (hxr : x ≠ r) :
    CallsD Tryz.prog 68 #[.pointer (some ⟨d, 0, none⟩), .pointer (some ⟨x, 0, none⟩), .pointer (some ⟨r, 0, none⟩)] (.panicking ({ v := u, recovered := false } :: older)) w fun e u' w' =>
      e = .returned (.tuple #[]) ∧ u' = .panicking ({ v := u, recovered := true } :: older) ∧ Blk w' x 26 #[.int .i64 0, .int .i64 0, .int .i64 0, .int .i64 0, .float .f64 0] ∧ Blk w' r 36 #[errAt (E n)] ∧ But [x, r] w w' := by
  unfold errAt at *
  obtain ⟨T, x0, rfl⟩ := hu0
  refine callsD_of_wpS Tryz.func68 rfl fun c₀ cs hu => ?_
  apply wpS_seq
  apply wpS_region
  simp [wpOpsS, go_sem, recoverD, hu, Tryz.ntmps68, Exit.thenS]
  refine wpS_of_wp ?_
  have e : (#[Value.pointer (some ⟨d, 0, none⟩), .pointer (some ⟨x, 0, none⟩), .pointer (some ⟨r, 0, none⟩)] ++ ((Array.replicate 8 undef).setIfInBounds 2 (Value.iface T x0)).setIfInBounds 0 (Value.iface T x0)) =
      #[Value.pointer (some ⟨d, 0, none⟩), .pointer (some ⟨x, 0, none⟩), .pointer (some ⟨r, 0, none⟩), .iface T x0, undef, .iface T x0, undef, undef, undef, undef, undef] := rfl
  rw [e]
  have HX := Lib.hid hx
  have HR := Lib.hid hr
  have HT := Lib.hid ht
  have HE := Lib.hid he
  have HB0 := Lib.hid (below_alloc1 w (.cells #[.int .i64 0, .int .i64 0, .int .i64 0, .int .i64 0, .float .f64 0] 26))
  have HN0 := Lib.hid (Blk.new w 26 #[.int .i64 0, .int .i64 0, .int .i64 0, .int .i64 0, .float .f64 0])
  clear e he hx hr ht
  go_wp2_with fail
  generalize w.alloc (.cells #[.int .i64 0, .int .i64 0, .int .i64 0, .int .i64 0, .float .f64 0] 26) = w0 at *
  refine wp_phi_tail (List.take 3 _) (List.drop 3 _) (List.take_append_drop 3 _).symm (fun w' => Below w.heap.size w w' ∧ Blk w' w.heap.size 26 #[.int .i64 0, .int .i64 0, .int .i64 0, .int .i64 0, .float .f64 0]) [(2, PVal (.iface 160 (.pointer (some (E n)))))] [] (by kernel_rfl) (by kernel_rfl) ?_ ?_ ⟨HB0.out.drew, HN0.out⟩ ?_
  · rintro w1' w2' ⟨h1, h2⟩ hb
    exact ⟨h1.trans (hb.mono h1.size), h2.below hb h2.lt⟩
  · simp only [List.mem_singleton, forall_eq]
    exact fun _ _ _ _ _ h => h
  simp only [List.take_succ_cons, List.take_zero, List.drop_succ_cons, List.drop_zero]
  repeat (first | (refine phi_skipK rfl (fun K hK => ?_); simp only [Act.put, List.setIfInBounds_toArray, List.set_cons_succ, List.set_cons_zero]; (try simp only [List.cons_append]); (try simp only [List.nil_append]); apply hK; clear hK K) | (refine phi_pureK rfl rfl (fun K hK => ?_); apply Exists.intro; constructor; (focus (rintro w' ⟨h1, h2⟩; (have c0 := (h2.cell 0).trans rfl; have c1 := (h2.cell 1).trans rfl; have c2 := (h2.cell 2).trans rfl; have c3 := (h2.cell 3).trans rfl; have c4 := (h2.cell 4).trans rfl); first | (go_simp; done) | (go_simp; (try go_bits); (try go_simp); rfl) | go_simp)); simp only [Act.put, List.setIfInBounds_toArray, List.set_cons_succ, List.set_cons_zero]; (try simp only [List.cons_append]); (try simp only [List.nil_append]); apply hK; clear hK K))
  refine phi_partK (PVal (.iface 160 (.pointer (some (E n))))) rfl rfl ⟨_, rfl⟩ ?_ (fun K hK v hv => ?_)
  · rintro w' ⟨h1, h2⟩ _
    unfold gives
    go_simp
    refine (HT.out w' h1 (HE.out.below h1)).mono ?_
    rintro e w'' ⟨rfl, hb⟩
    exact ⟨_, rfl, rfl, trivial, hb⟩
  obtain rfl : v = _ := hv
  simp only [Act.put, List.setIfInBounds_toArray, List.set_cons_succ, List.set_cons_zero]; (try simp only [List.cons_append]); (try simp only [List.nil_append])
  apply hK
  clear hK K
  refine phi_done ?_
  rintro w1 ⟨h1, h2⟩ _
  have hx1 := HX.out.below h1 HX.out.lt
  have hr1 := HR.out.below h1 HR.out.lt
  have HR1 := Lib.hid hr1
  have HB1 := Lib.hid h1
  have cr := (hr1.cell 0).trans rfl
  have fr := hr1.frozen 0
  clear h1 h2 hr1 HT
  refine wpList_store (.tmp 1) (.tmp 8) 26 rfl rfl x 0 _ _ #[.int .i64 0, .int .i64 0, .int .i64 0, .int .i64 0, .float .f64 0] rfl rfl hx1 (by kernel_rfl) (by simp [Value.oneCell']) (by simp) ?_
  intro w2 hx2 ho2
  rw [putCells_all #[.int .i64 0, .int .i64 0, .int .i64 0, .int .i64 0, .float .f64 0] #[.int .i64 0, .int .i64 0, .int .i64 0, .int .i64 0, .float .f64 0] rfl] at hx2
  have hr2 := ho2.blk HR1.out (fun e => hxr e.symm)
  have cr2 := (hr2.cell 0).trans rfl
  have fr2 := hr2.frozen 0
  have HX2 := Lib.hid hx2
  have HR2 := Lib.hid hr2
  have HO2 := Lib.hid ho2
  clear hx2 hr2 ho2 hx1 cr fr
  go_wp2_with fail
  cases c₀
  simp only [bodyPostS, results, Tryz.results68]
  exact ⟨trivial, _, rfl, .tuple #[], by simp, rfl, rfl, HX2.out.far hxr 0 _, HR2.out.set_ 0 _, (((But.of_below HB1.out).only HO2.out (by simp)).set_ r 0 _ (by simp))⟩
theorem tryCtx_any (w : World) (E : Nat → Addr) (f : FuncId) (caps : Array Value) (S : List Nat) (R : World → Value → World → Prop) (Q : Nat → World → World → Prop) (hSl : ∀ s ∈ S, s < w.heap.size) (he : ∀ w', But S w w' → Errs w' E) (hRs : ∀ w1 v w2, R w1 v w2 → ∃ v0 v1 v2 v3 v4 : Value, v = .agg #[v0, v1, v2, v3, v4] ∧ v0.oneCell' = true ∧ v1.oneCell' = true ∧ v2.oneCell' = true ∧ v3.oneCell' = true ∧ v4.oneCell' = true) (hcf : ∀ w, (callFunc f caps).run Tryz.prog w = .ok (.enter f caps) w)
    (hdo : ∀ w1, Below w.heap.size w w1 → w1.heap.size = w.heap.size + 3 → Calls Tryz.prog f caps w1 fun e w2 => MayG (R w1) (fun n w2 => Q n w1 w2) E e w2 ∧ But S w1 w2) :
    Calls Tryz.prog 38 #[.func (.func f) #[] caps] w (TryG S R Q E (.agg #[.int .i64 0, .int .i64 0, .int .i64 0, .int .i64 0, .float .f64 0]) w) := by
  have hmf := @run_makeFunc Tryz.prog
  have HE := Lib.hid he
  have HD := Lib.hid hdo
  have HRS := Lib.hid hRs
  have hno : ∀ k, w.heap.size ≤ k → S.contains k = false := fun k hk => by
    rw [Bool.eq_false_iff]
    intro hc
    have := hSl k (List.contains_iff_mem.1 hc)
    omega
  have HNO := Lib.hid hno
  clear he hdo hRs hSl hno
  go_enter_defers Tryz.func38, Tryz.ntmps38
  go_wp2_with fail
  have hb1 : Below w.heap.size w (((w.alloc (.cells #[.int .i64 0, .int .i64 0, .int .i64 0, .int .i64 0, .float .f64 0] 26)).alloc (.cells #[.nilIface] 36)).alloc (.cells #[.bool false] 4)) := below_alloc (below_alloc (below_alloc1 w _) _) _
  refine (HD.out _ hb1 (by simp)).mono ?_
  rintro e w2 ⟨hm, hb2⟩
  have x1 := hb2.blk (((Blk.new w 26 #[.int .i64 0, .int .i64 0, .int .i64 0, .int .i64 0, .float .f64 0]).alloc (.cells #[.nilIface] 36)).alloc (.cells #[.bool false] 4)) (HNO.out _ (Nat.le_refl _))
  have r1 := hb2.blk ((Blk.new (w.alloc (.cells #[.int .i64 0, .int .i64 0, .int .i64 0, .int .i64 0, .float .f64 0] 26)) 36 #[.nilIface]).alloc (.cells #[.bool false] 4)) (HNO.out _ (by simp))
  have d1 := hb2.blk (Blk.new ((w.alloc (.cells #[.int .i64 0, .int .i64 0, .int .i64 0, .int .i64 0, .float .f64 0] 26)).alloc (.cells #[.nilIface] 36)) 4 #[.bool false]) (HNO.out _ (by simp; omega))
  have hs1 : (((w.alloc (.cells #[.int .i64 0, .int .i64 0, .int .i64 0, .int .i64 0, .float .f64 0] 26)).alloc (.cells #[.nilIface] 36)).alloc (.cells #[.bool false] 4)).heap.size = w.heap.size + 3 := by simp
  simp only [World.size_alloc] at r1 d1
  have X1 := Lib.hid x1
  have R1 := Lib.hid r1
  have D1 := Lib.hid d1
  have B1 := Lib.hid hb1
  have B2 := Lib.hid hb2
  have S1 := Lib.hid hs1
  rcases hm with ⟨v, rfl, hR⟩ | ⟨u, n, hn, hS, ⟨T, x0, rfl⟩, htells, rfl⟩
  · obtain ⟨v0, v1, v2, v3, v4, rfl, hv1⟩ := HRS.out _ _ _ hR
    have HR := Lib.hid hR
    have HV1 := Lib.hid (show ∀ u ∈ (#[v0, v1, v2, v3, v4] : Array Value).toList, u.oneCell' = true by simpa using hv1)
    clear x1 r1 d1 hb1 hb2 hs1 hR hv1
    generalize (((w.alloc (.cells #[.int .i64 0, .int .i64 0, .int .i64 0, .int .i64 0, .float .f64 0] 26)).alloc (.cells #[.nilIface] 36)).alloc (.cells #[.bool false] 4)) = w1 at *
    go_wp2_with (refine wpList_store (.tmp 2) (.tmp 7) 26 rfl rfl w.heap.size 0 _ _ #[v0, v1, v2, v3, v4] rfl rfl X1.out ?s0 HV1.out ?s1 ?_)
    case s0 => kernel_rfl
    case s1 => simp
    intro w3 hx3 ho3
    rw [putCells_all #[.int .i64 0, .int .i64 0, .int .i64 0, .int .i64 0, .float .f64 0] #[v0, v1, v2, v3, v4] rfl] at hx3
    have hd3 := ho3.blk D1.out (by omega)
    have hr3 := ho3.blk R1.out (by omega)
    have cd := (hd3.cell 0).trans rfl
    have fd := hd3.frozen 0
    have X4 := Lib.hid (hx3.far (b := w.heap.size + 1 + 1) (by omega) 0 (.bool true))
    have R4 := Lib.hid (hr3.far (b := w.heap.size + 1 + 1) (by omega) 0 (.bool true))
    have D4 := Lib.hid (show Blk (w3.setCell ⟨w.heap.size + 1 + 1, 0, none⟩ (.bool true)) (w.heap.size + 1 + 1) 4 #[.bool true] from hd3.set_ 0 _)
    have O4 := Lib.hid (((But.of_below (S := [w.heap.size, w.heap.size + 1, w.heap.size + 2]) (Below.refl _ w2)).only ho3 (by simp)).set_ (w.heap.size + 1 + 1) 0 (.bool true) (by simp))
    clear hx3 ho3 hd3 hr3
    go_wp2_with (first | (refine wpList_loadS (.tmp 2) 26 rfl rfl w.heap.size 26 #[v0, v1, v2, v3, v4] rfl X4.out _ Tryz.underlying26 rfl ?s2 ?_) | (refine wpList_store (.tmp 2) (.tmp 8) 26 rfl rfl w.heap.size 0 _ _ #[v0, v1, v2, v3, v4] rfl rfl X4.out ?s3 HV1.out ?s4 ?_))
    case s2 => kernel_rfl
    case s3 => kernel_rfl
    case s4 => simp
    clear cd fd
    generalize w3.setCell ⟨w.heap.size + 1 + 1, 0, none⟩ (.bool true) = w4 at *
    intro w5 hx5 ho5
    rw [putCells_all #[v0, v1, v2, v3, v4] #[v0, v1, v2, v3, v4] rfl] at hx5
    have hr5 := ho5.blk R4.out (by omega)
    have hd5 := ho5.blk D4.out (by omega)
    have cr := (hr5.cell 0).trans rfl
    have fr := hr5.frozen 0
    have X6 := Lib.hid (hx5.far (b := w.heap.size + 1) (by omega) 0 .nilIface)
    have R6 := Lib.hid (show Blk (w5.setCell ⟨w.heap.size + 1, 0, none⟩ .nilIface) (w.heap.size + 1) 36 #[.nilIface] from hr5.set_ 0 _)
    have D6 := Lib.hid (hd5.far (b := w.heap.size + 1) (by omega) 0 .nilIface)
    have O6 := Lib.hid ((O4.out.only ho5 (by simp)).set_ (w.heap.size + 1) 0 .nilIface (by simp))
    clear hx5 ho5 hd5 hr5
    go_wp2_with fail
    clear cr fr
    generalize w5.setCell ⟨w.heap.size + 1, 0, none⟩ .nilIface = w6 at *
    refine leaves_cons (f := 68) (args := #[.pointer (some ⟨w.heap.size + 1 + 1, 0, none⟩), .pointer (some ⟨w.heap.size, 0, none⟩), .pointer (some ⟨w.heap.size + 1, 0, none⟩)]) (by simp) (by simp [go_sem]) ?_
    refine (tryCtx_idle _ _ _ w6 ((D6.out.cell 0).trans rfl)).mono ?_
    rintro e u' w7 ⟨rfl, rfl, rfl⟩
    have cb := (R6.out.cell 0).trans rfl
    have c0 := (X6.out.cell 0).trans rfl; have c1 := (X6.out.cell 1).trans rfl; have c2 := (X6.out.cell 2).trans rfl; have c3 := (X6.out.cell 3).trans rfl; have c4 := (X6.out.cell 4).trans rfl
    have hfin : TryG S R Q E (.agg #[.int .i64 0, .int .i64 0, .int .i64 0, .int .i64 0, .float .f64 0]) w (.returned (.tuple #[.agg #[v0, v1, v2, v3, v4], .nilIface])) w7 := by
      exact ⟨But.out ((But.of_below B1.out).trans B2.out) O6.out (Nat.le_refl _), w1, w2, S1.out, B1.out, B2.out, O6.out, .inl ⟨_, rfl, HR.out⟩⟩
    have HF := Lib.hid hfin
    clear hfin
    simp [Leaves, settle, results, Tryz.results38, go_sem, c0, c1, c2, c3, c4, cb]
    exact HF.out
  · have cd := (d1.cell 0).trans rfl
    clear x1 r1 d1 hb1 hb2 hs1
    generalize (((w.alloc (.cells #[.int .i64 0, .int .i64 0, .int .i64 0, .int .i64 0, .float .f64 0] 26)).alloc (.cells #[.nilIface] 36)).alloc (.cells #[.bool false] 4)) = w1 at *
    go_wp2_with fail
    have hb := (But.of_below B1.out).trans B2.out
    refine leaves_cons (f := 68) (args := #[.pointer (some ⟨w.heap.size + 1 + 1, 0, none⟩), .pointer (some ⟨w.heap.size, 0, none⟩), .pointer (some ⟨w.heap.size + 1, 0, none⟩)]) (by simp) (by simp [go_sem]) ?_
    refine (tryCtx_err _ _ _ w2 E (.iface T x0) n [] ⟨T, x0, rfl⟩ htells (HE.out w2 hb) cd X1.out R1.out (by omega)).mono ?_
    rintro e u' w4 ⟨rfl, rfl, ca, cb, hBut⟩
    have hfin : TryG S R Q E (.agg #[.int .i64 0, .int .i64 0, .int .i64 0, .int .i64 0, .float .f64 0]) w (.returned (.tuple #[.agg #[.int .i64 0, .int .i64 0, .int .i64 0, .int .i64 0, .float .f64 0], errAt (E n)])) w4 := by
      exact ⟨But.out hb (But.wide hBut) (Nat.le_refl _), w1, w2, S1.out, B1.out, B2.out, But.wide hBut, .inr ⟨n, hn, hS, rfl⟩⟩
    have c0 := (ca.cell 0).trans rfl; have c1 := (ca.cell 1).trans rfl; have c2 := (ca.cell 2).trans rfl; have c3 := (ca.cell 3).trans rfl; have c4 := (ca.cell 4).trans rfl
    have cb' := (cb.cell 0).trans rfl
    have HF := Lib.hid hfin
    clear hfin
    unfold errAt at cb' HF
    simp [Leaves, settle, results, Tryz.results38, go_sem, c0, c1, c2, c3, c4, cb']
    exact HF.out
end Go.Proofs.YtgmiockaecklaaaGreatDoor
