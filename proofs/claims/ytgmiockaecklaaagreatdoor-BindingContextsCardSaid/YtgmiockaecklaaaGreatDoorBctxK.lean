/-
  BctxK: package binding: ToContext, whole.
-/
import Derived.Test.YtgmiockaecklaaaGreatDoorBctxJ
namespace Go.Proofs.YtgmiockaecklaaaGreatDoor
open Go.RowKit Go.Extern.Stop Go.Stop Go.Extern Ieee

def exO (o : Option Ctx) : Except Nat Ctx := match o with | some c => .ok c | none => .error 3
theorem optV_ex {E : Nat → Addr} {o : Option Ctx} {w w' : World} {e : Ending} (h : OptV E o ctxV w e w') : ExR E (exO o) ctxV w e w' := by
  refine ⟨h.1, ?_⟩
  rcases h.2 with ⟨a, rfl, rfl⟩ | ⟨rfl, rfl⟩
  · exact .inl ⟨a, rfl, rfl⟩
  · exact .inr ⟨3, rfl, by omega, rfl⟩
set_option maxRecDepth 20000 in
set_option maxHeartbeats 4000000 in
theorem toctx_any (x : Tr) (cx : List Value) (P : Nat → Prop) (w : World) (E : Nat → Addr) (hg : IdsG w E) (ht : Tab w 1 outsL) (hx : x.ok 2) (hcx : TrC w P x cx) (hlen : ∀ a ∈ x.ats, ∀ s ∈ a, s.length ≤ 1000) :
    Calls Tryz.prog 12 #[.agg cx.toArray] w (TryX E (exO (toCtxE x)) ctxV ctx0 w) := by
  have hmf := @run_makeFunc Tryz.prog
  have hcx0 := hcx
  obtain ⟨nx, ax, kx, tx⟩ := x
  have hx0 := hx
  unfold TrC at hcx
  unfold Tr.ok at hx
  obtain ⟨n0, n1, rfl⟩ := two_of hx.1
  obtain ⟨pa, ca, pk, ck, css, rfl, -⟩ := hcx
  show Calls Tryz.prog 12 #[.agg #[.string (bs n0), .string (bs n1), .slice pa ax.length ca, .slice pk kx.length ck, .string (bs tx)]] w _
  have hb1 := below_alloc (below_alloc1 w (.cells #[.string (bs n0), .string (bs n1), .slice pa ax.length ca, .slice pk kx.length ck, .string (bs tx)] 34)) (.cells #[.int .i64 0, .int .i64 0, .int .i64 0, .int .i64 0, .float .f64 0] 26)
  have B1 := Lib.hid hb1
  have N1 := Lib.hid ((Blk.new w 34 #[.string (bs n0), .string (bs n1), .slice pa ax.length ca, .slice pk kx.length ck, .string (bs tx)]).alloc (.cells #[.int .i64 0, .int .i64 0, .int .i64 0, .int .i64 0, .float .f64 0] 26))
  have M1 := Lib.hid (show Blk ((w.alloc (.cells #[.string (bs n0), .string (bs n1), .slice pa ax.length ca, .slice pk kx.length ck, .string (bs tx)] 34)).alloc (.cells #[.int .i64 0, .int .i64 0, .int .i64 0, .int .i64 0, .float .f64 0] 26)) (w.heap.size + 1) 26 #[.int .i64 0, .int .i64 0, .int .i64 0, .int .i64 0, .float .f64 0] from by
    have := Blk.new (w.alloc (.cells #[.string (bs n0), .string (bs n1), .slice pa ax.length ca, .slice pk kx.length ck, .string (bs tx)] 34)) 26 #[.int .i64 0, .int .i64 0, .int .i64 0, .int .i64 0, .float .f64 0]
    rwa [World.size_alloc] at this)
  have HG := Lib.hid hg; have HT := Lib.hid ht; have HCX := Lib.hid hcx0; have HX0 := Lib.hid hx0; have HLEN := Lib.hid hlen
  clear hb1 hg ht hcx0 hx0 hlen hx
  go_enter Tryz.func12, Tryz.ntmps12
  go_wp2_with fail
  generalize (w.alloc (.cells #[.string (bs n0), .string (bs n1), .slice pa ax.length ca, .slice pk kx.length ck, .string (bs tx)] 34)).alloc (.cells #[.int .i64 0, .int .i64 0, .int .i64 0, .int .i64 0, .float .f64 0] 26) = w1 at *
  generalize hxx : toCtxE (.node [n0, n1] ax kx tx) = R at *
  refine (tryCtx_any w1 E _ _ [] (fun _ v _ => ∃ a : Ctx, exO R = .ok a ∧ v = ctxV a) (fun n _ _ => exO R = .error n) (by simp) (fun w' h => (HG.out.below (B1.out.trans (h.nil_below.mono B1.out.size))).errs) (fun _ v _ h => by obtain ⟨a, _, rfl⟩ := h; exact ⟨_, _, _, _, _, rfl, rfl, rfl, rfl, rfl, rfl⟩) (fun w => by simp [go_sem])
    (fun w2 hb _ => (hxx ▸ toctx1_any (.node [n0, n1] ax kx tx) _ P w.heap.size w2 E (HG.out.below (B1.out.trans (hb.mono B1.out.size))) (HT.out.below (B1.out.trans (hb.mono B1.out.size))) HX0.out (HCX.out.below (B1.out.trans (hb.mono B1.out.size))) HLEN.out (N1.out.below hb N1.out.lt)).mono (fun e w3 h => exR_may (optV_ex h)))).mono ?_
  intro e w2 h
  obtain ⟨hb2, rfl, hx⟩ := tryX_of (V := ctxV) (z := ctx0) h
  have B2 := Lib.hid (B1.out.trans (hb2.mono B1.out.size))
  have HX := Lib.hid hx
  have M2 := Lib.hid (M1.out.below hb2 M1.out.lt)
  clear hb2 h hx hxx
  generalize hv : xval (exO R) ctx0 = v at *
  generalize he : errV E (xbad (exO R)) = ev at *
  have HV := Lib.hid hv
  have HEV := Lib.hid he
  clear hv he
  obtain ⟨vn, vs, vo, vd, vx⟩ := v
  unfold ctxV ctxA
  go_wp2_with (refine wpList_store (.tmp 2) (.tmp 6) 26 rfl rfl (w.heap.size + 1) 0 _ _ #[.int .i64 vn, .int .i64 vs, .int .i64 vo, .int .i64 vd, .float .f64 vx] rfl rfl M2.out (by kernel_rfl) (by simp [Value.oneCell']) (by simp) ?_)
  intro w7 hn7 ko7
  have h7 : Blk w7 (w.heap.size + 1) 26 #[.int .i64 vn, .int .i64 vs, .int .i64 vo, .int .i64 vd, .float .f64 vx] := hn7
  have q0 := (h7.cell 0).trans rfl; have q1 := (h7.cell 1).trans rfl; have q2 := (h7.cell 2).trans rfl; have q3 := (h7.cell 3).trans rfl; have q4 := (h7.cell 4).trans rfl
  go_wp2_with fail
  refine bodyPost_ret (v := .tuple #[.agg #[.int .i64 vn, .int .i64 vs, .int .i64 vo, .int .i64 vd, .float .f64 vx], ev]) (by simp [results, Tryz.results12, go_sem, q0, q1, q2, q3, q4]) rfl ?_
  exact ⟨B2.out.trans (ko7.below (Nat.le_succ _)), by rw [HV.out, HEV.out]; rfl, HX.out⟩
end Go.Proofs.YtgmiockaecklaaaGreatDoor
