/- Close -/
import Derived.Test.YthboiahdheehkaaGreatDoorBA
import Derived.ChangeSame
import Derived.OpenShut
import Derived.Deep.DeepHandedRow
import Derived.Lib.LaidTab
import Derived.Test.YthboiahdheehkaaGreatDoorProg
import Derived.Lib.SmallJoins
import Derived.Test.YthboiahdheehkaaGreatDoorRows
import Derived.Stop.LaidErr
import Derived.LaidSub
import Derived.MakeChecks
import Derived.Test.YthboiahdheehkaaGreatDoorPC
import Derived.Lib.LaidU8T
import Derived.ShapedOpen
import Derived.Test.YthboiahdheehkaaGreatDoorBS
import Derived.Test.YthboiahdheehkaaGreatDoorSG
namespace Go.Proofs.YthboiahdheehkaaGreatDoor
set_option maxHeartbeats 2000000
set_option maxRecDepth 100000
open Go.RowKit Go.ChangeShapes Go.WideShapes Go.ChangeAt
section
variable {H : Type} {enc : TypeId × Value → H} {P : Program}
theorem trodAll_stays (hl : laidOutB P = true) {W W' : World} {sp : Nat → Bool} : ∀ (ts : List TypeId) (vs : List Value) (ds : List (DataW H)) (ps : List MemPlace),
    DataW.TrodAll enc P W 0 (fun _ => true) true ts vs ds ps → (∀ t ∈ ts, P.readableRec t = true ∧ t < P.types.size) → (∀ p ∈ ps, W.sameAt W' p) → (∀ p ∈ ps, sp p.block = true) →
    DataW.TrodAll enc P W' 0 sp true ts vs ds ps
  | [], [], [], ps, h, _, _, _ => h
  | t :: ts, v :: vs, d :: ds, ps, h, ht, hsame, hs => by
    obtain ⟨p, q, h1, h2, rfl⟩ := h
    have a := ht t (by simp)
    refine ⟨p, q, WideElems.Trod_stays hl a.1 a.2 h1 (fun x hx => hsame x (by simp [hx])) (fun x hx => hs x (by simp [hx])), ?_, rfl⟩
    exact trodAll_stays hl ts vs ds q h2 (fun t ht' => ht t (by simp [ht'])) (fun x hx => hsame x (by simp [hx])) (fun x hx => hs x (by simp [hx]))
  | [], _ :: _, _, _, h, _, _, _ => h.elim
  | [], [], _ :: _, _, h, _, _, _ => h.elim
  | _ :: _, [], _, _, h, _, _, _ => h.elim
  | _ :: _, _ :: _, [], _, h, _, _, _ => h.elim
theorem law_post {f : Func} {s : ChangeSpec} {apart fresh handsOn again : Bool} {W W' : World} {args : Array Value} {ds gs : List (DataW H)} {before : List MemPlace} {T : TypeId}
    (hl : laidOutB P = true) (ht : ∀ t ∈ f.params.toList, P.readableRec t = true ∧ t < P.types.size) (hT : f.resultTypes = #[T]) (hTb : P.underlying T = some .bool)
    (hW : DataW.Whole enc P f.params.toList s.vars apart W args.toList ds gs before) (hb : Below W.heap.size W W') (hvs : s.vars = [])
    (hres : (s.fn H ds).results = [.lit (.bool true)]) (hargs : (s.fn H ds).args = ds) (hvars : (s.fn H ds).vars = []) :
    s.post enc P f apart fresh handsOn again W args (.bool true) W' := by
  have hlt : ∀ p ∈ before, p.block < W.heap.size := fun p hp => hW.lt p hp
  have hw := hW
  obtain ⟨p, q, hA, hV, hpq, hz, hn⟩ := hW
  rw [hvs] at hV
  obtain ⟨rfl, rfl⟩ := trodVars_none hV
  rw [List.append_nil] at hpq
  subst hpq
  have hV0 : ∀ {w : World} {sp : Nat → Bool}, DataW.TrodVars enc P w sp [] [] [] := rfl
  have hshut : ∀ (b : Nat) (sp : Nat → Bool) (hd : Bool), DataW.TrodAll enc P W' b sp hd [T] [Value.bool true] [.lit (.bool true)] [] :=
    fun _ _ _ => trodAll_mk1 (shut_bool hTb true)
  have hstay : ∀ sp : Nat → Bool, (∀ x ∈ before, sp x.block = true) → DataW.TrodAll enc P W' 0 sp true f.params.toList args.toList ds before :=
    fun sp hs => trodAll_stays hl _ _ _ _ hA ht (fun x hx => hb.same (hlt x hx)) hs
  have hsz : f.resultTypes.size = 1 := by rw [hT]; rfl
  refine ⟨ds, [], before, [], before, [], hw, ?_, ?_, ?_, ?_, fun _ => ⟨?_, ?_⟩⟩
  · rw [List.append_nil, hres, hsz, hT]; exact hshut _ _ _
  · rw [List.append_nil, hargs]; exact hstay _ (fun x hx => by simpa using hlt x hx)
  · rw [List.append_nil, hvs, hvars]
    exact hV0
  · exact World.keptBut_mono (fun x hx => ⟨hx, .inr (.inl hx)⟩) (hb.frame (· ∈ before))
  · exact ok_one (by rw [hT]) rfl (okWide_bool_mk hTb true)
  · refine ⟨[.lit (.bool true)] ++ ds, [], [] ++ before, ⟨[] ++ before, [], ?_, by rw [hvs]; exact hV0, by simp, ?_, ?_⟩, fun x hx _ => by simpa using hx⟩
    · rw [hsz, hT]
      exact trodAll_append (hstay (fun _ => true) (fun _ _ => rfl)) (hshut _ _ _)
    · intro b off hp
      have hin : MemPlace.cell b off ∈ before := by simpa using hp
      rw [hb.frozen (hlt _ hin)]
      exact hz b off hin
    · intro ha; simpa using hn ha
theorem trod_i64 {w : World} {base : Nat} {sp : Nat → Bool} {held : Bool} {fuel : Nat} {e : TypeId} {v : Value} {x : DataW H × List MemPlace}
    (he : P.underlying e = some (.int .i64)) (h : DataW.trod enc P w base sp held fuel e [v] = some x) : ∃ y : Int, v = .int .i64 y ∧ (Lit.int .i64 y).wf = true := by
  cases fuel with
  | zero => simp [DataW.trod] at h
  | succ n =>
    simp only [DataW.trod, he] at h
    split at h
    all_goals rename_i he2 hcs
    all_goals first | (cases h; done) | (cases he2; done) | skip
    all_goals
      first
        | (cases hcs; done)
        | (simp only [TypeDesc.int.injEq, Option.some.injEq] at he2
           subst he2
           simp only [List.cons.injEq, and_true] at hcs
           subst hcs
           split at h
           · rename_i hw
             obtain ⟨rfl, hw⟩ := hw
             exact ⟨_, rfl, hw⟩
           · cases h)
theorem int_bd {x : Int} (h : (Lit.int .i64 x).wf = true) : -9223372036854775808 ≤ x ∧ x ≤ 9223372036854775807 := by
  simpa [Lit.wf, IntKind.min, IntKind.max, IntKind.signed, IntKind.bits] using h
end
end Go.Proofs.YthboiahdheehkaaGreatDoor
namespace Go.Proofs.YthboiahdheehkaaGreatDoor
set_option maxHeartbeats 2000000
set_option maxRecDepth 100000
open Go.RowKit Go.ChangeShapes Go.WideShapes Go.ChangeAt
section
variable {H : Type} {enc : TypeId × Value → H}
end
end Go.Proofs.YthboiahdheehkaaGreatDoor
namespace Go.Proofs.YthboiahdheehkaaGreatDoor
set_option maxHeartbeats 2000000
set_option maxRecDepth 100000
open Go.ChangeShapes Go.WideShapes Go.ChangeAt Go.RowKit
section
variable {P : Program} {nm : String} {W : World} {ti tp te ts : TypeId} {ms : Array (String × TypeId)} {f : Field}
def sentinel (nm : String) (text : List UInt8) : DataW Unit := .iface nm (.ptr (.agg [.lit (.string text)]))
theorem sentinels_list (hi : P.underlying ti = some (.interface ms)) (hrow : ∀ u, P.typeName? 3 u = some nm → u = tp)
    (hp : P.underlying tp = some (.pointer te)) (he : P.underlying te = some (.struct #[f])) (hft : f.type = ts) (hfo : f.offset = 0) (hs : P.underlying ts = some .string) (hc : P.cellsOf te = 1) (hcs : P.cellsOf ts = 1) :
    ∀ (L : List (String × List UInt8)) (ps : List MemPlace), (∀ x ∈ L, ∃ g, P.globalNamed x.1 = some g ∧ (P.globals[g]?).map (·.type) = some ti) →
      DataW.LaidVars P W (L.map fun x => (x.1, sentinel nm x.2)) ps → ps.Nodup → (∀ b off, MemPlace.cell b off ∈ ps → (∃ c t, W.heap[b]? = some (.cells c t (0, 0))) ∧ ∀ u v, W.cell? ⟨b, off, none⟩ = some (.iface u v) → Value.okWide P W .any 0 u v) →
      ∃ aa : List Addr, aa.length = L.length ∧ aa.Nodup ∧ (∀ a ∈ aa, MemPlace.cell a.block a.off ∈ ps ∧ a.spot = none) ∧
        ∀ (i : Nat) x a, L[i]? = some x → aa[i]? = some a → ∃ g, P.globalNamed x.1 = some g ∧ W.cell? ⟨g, 0, none⟩ = some (.iface tp (.pointer (some a)))
  | [], ps, _, _, _, _ => ⟨[], rfl, List.nodup_nil, by simp, by simp⟩
  | x :: L, ps, hg, h, hnd, hrows => by
    obtain ⟨g', t', cs, fl, p, q, hg', ht', hv, hd, hrest, e⟩ := h
    obtain ⟨g, hgx, htx⟩ := hg x (by simp)
    obtain rfl := Option.some.inj (hgx.symm.trans hg')
    obtain rfl := Option.some.inj (htx.symm.trans ht')
    subst e
    obtain ⟨l0⟩ := cs
    have hnd2 := List.nodup_append.1 hnd
    obtain ⟨aa, h1, h2, h3, h4⟩ := sentinels_list hi hrow hp he hft hfo hs hc hcs L q (fun y hy => hg y (by simp [hy])) hrest hnd2.2.1 (fun b off hm => hrows b off (by simp [hm]))
    have ok0 : ∀ u v, l0 = [.iface u v] → Value.okWide P W .any 0 u v := fun u v e => by
      subst e
      exact (hrows g 0 (by simp [MemPlace.row])).2 u v (by simpa using World.var?_cell hg' hv 0)
    obtain ⟨a0, s0, rfl, hc0, hs0, hz0, rfl⟩ := errorString_of_trod hi hrow hp he hft hfo hs hc hcs hd ok0
    have hspot : a0.spot = none := by
      unfold World.cell? at hc0
      split at hc0
      · split at hc0
        · cases hc0
        · rename_i hs; simpa using hs
      · cases hc0
    refine ⟨a0 :: aa, by simp [h1], List.nodup_cons.2 ⟨fun hm => ?_, h2⟩, ?_, ?_⟩
    · have h5 := (h3 a0 hm).1
      exact hnd2.2.2 _ (by simp [MemPlace.row]) _ h5 rfl
    · intro a ha
      rcases List.mem_cons.1 ha with rfl | ha
      · exact ⟨by simp [MemPlace.row], hspot⟩
      · exact ⟨by simp [(h3 a ha).1], (h3 a ha).2⟩
    · intro i y a hy ha
      cases i with
      | zero =>
        simp only [List.getElem?_cons_zero, Option.some.injEq] at hy ha
        subst hy ha
        exact ⟨g, hg', by simpa using World.var?_cell hg' hv 0⟩
      | succ i => exact h4 i y a (by simpa using hy) (by simpa using ha)
end
def errNames : List String := ["liaison/api.ErrRange", "liaison/api.ErrShort", "liaison/api.ErrLong", "liaison/api.ErrForm", "liaison/api.ErrCheck", "liaison/api.ErrFull", "liaison/api.ErrPower", "liaison/api.ErrNone", "liaison/api.ErrState", "liaison/api.ErrTwice", "liaison/api.ErrDepth", "liaison/api.ErrExpired", "liaison/api.ErrPanic", "liaison/api.ErrProtocol"]
def errLaid : List (String × DataW Unit) := [("liaison/api.ErrRange", Rows.laid_liaison_api_ErrRange), ("liaison/api.ErrShort", Rows.laid_liaison_api_ErrShort), ("liaison/api.ErrLong", Rows.laid_liaison_api_ErrLong), ("liaison/api.ErrForm", Rows.laid_liaison_api_ErrForm), ("liaison/api.ErrCheck", Rows.laid_liaison_api_ErrCheck), ("liaison/api.ErrFull", Rows.laid_liaison_api_ErrFull), ("liaison/api.ErrPower", Rows.laid_liaison_api_ErrPower), ("liaison/api.ErrNone", Rows.laid_liaison_api_ErrNone), ("liaison/api.ErrState", Rows.laid_liaison_api_ErrState), ("liaison/api.ErrTwice", Rows.laid_liaison_api_ErrTwice), ("liaison/api.ErrDepth", Rows.laid_liaison_api_ErrDepth), ("liaison/api.ErrExpired", Rows.laid_liaison_api_ErrExpired), ("liaison/api.ErrPanic", Rows.laid_liaison_api_ErrPanic), ("liaison/api.ErrProtocol", Rows.laid_liaison_api_ErrProtocol)]
def errTexts : List (String × List UInt8) := errLaid.map fun x => (x.1, match x.2 with | .iface _ (.ptr (.agg [.lit (.string s)])) => s | _ => [])
theorem errLaid_eq : errLaid = errTexts.map fun x => (x.1, sentinel "*errors.errorString" x.2) := by rfl
theorem errStar : "*" ++ "errors.errorString" = "*errors.errorString" := by decide
theorem errRow (u : TypeId) (h : Tryz.prog.typeName? 3 u = some "*errors.errorString") : u = 313 :=
  typeName_ptr_named (nm := "errors.errorString") (by rw [errStar]; kernel_rfl) (by kernel_rfl) (by decide) u (by rw [errStar]; exact h)
theorem errGlobals : ∀ x ∈ errTexts, ∃ g, Tryz.prog.globalNamed x.1 = some g ∧ (Tryz.prog.globals[g]?).map (·.type) = some 30 := by
  intro x hx
  have hm : x.1 ∈ errNames := by
    have := List.mem_map_of_mem (f := (·.1)) hx
    exact this
  simp only [errNames, List.mem_cons, List.not_mem_nil, or_false] at hm
  rcases hm with h | h | h | h | h | h | h | h | h | h | h | h | h | h
  · rw [h]; exact ⟨1, by kernel_rfl, by kernel_rfl⟩
  · rw [h]; exact ⟨2, by kernel_rfl, by kernel_rfl⟩
  · rw [h]; exact ⟨3, by kernel_rfl, by kernel_rfl⟩
  · rw [h]; exact ⟨0, by kernel_rfl, by kernel_rfl⟩
  · rw [h]; exact ⟨4, by kernel_rfl, by kernel_rfl⟩
  · rw [h]; exact ⟨5, by kernel_rfl, by kernel_rfl⟩
  · rw [h]; exact ⟨6, by kernel_rfl, by kernel_rfl⟩
  · rw [h]; exact ⟨7, by kernel_rfl, by kernel_rfl⟩
  · rw [h]; exact ⟨8, by kernel_rfl, by kernel_rfl⟩
  · rw [h]; exact ⟨9, by kernel_rfl, by kernel_rfl⟩
  · rw [h]; exact ⟨10, by kernel_rfl, by kernel_rfl⟩
  · rw [h]; exact ⟨11, by kernel_rfl, by kernel_rfl⟩
  · rw [h]; exact ⟨12, by kernel_rfl, by kernel_rfl⟩
  · rw [h]; exact ⟨13, by kernel_rfl, by kernel_rfl⟩
theorem errGNum : ∀ (i : Nat) x, errTexts[i]? = some x → ∀ g, Tryz.prog.globalNamed x.1 = some g → g = errVar i := by
  intro i x hx g hg
  have hi : i < 14 := (List.getElem?_eq_some_iff.1 hx).1
  have h2 : i = 0 ∨ i = 1 ∨ i = 2 ∨ i = 3 ∨ i = 4 ∨ i = 5 ∨ i = 6 ∨ i = 7 ∨ i = 8 ∨ i = 9 ∨ i = 10 ∨ i = 11 ∨ i = 12 ∨ i = 13 := by omega
  rcases h2 with rfl | rfl | rfl | rfl | rfl | rfl | rfl | rfl | rfl | rfl | rfl | rfl | rfl | rfl
  · obtain rfl := Option.some.inj hx
    exact Option.some.inj (hg.symm.trans (show Tryz.prog.globalNamed "liaison/api.ErrRange" = some 1 by kernel_rfl))
  · obtain rfl := Option.some.inj hx
    exact Option.some.inj (hg.symm.trans (show Tryz.prog.globalNamed "liaison/api.ErrShort" = some 2 by kernel_rfl))
  · obtain rfl := Option.some.inj hx
    exact Option.some.inj (hg.symm.trans (show Tryz.prog.globalNamed "liaison/api.ErrLong" = some 3 by kernel_rfl))
  · obtain rfl := Option.some.inj hx
    exact Option.some.inj (hg.symm.trans (show Tryz.prog.globalNamed "liaison/api.ErrForm" = some 0 by kernel_rfl))
  · obtain rfl := Option.some.inj hx
    exact Option.some.inj (hg.symm.trans (show Tryz.prog.globalNamed "liaison/api.ErrCheck" = some 4 by kernel_rfl))
  · obtain rfl := Option.some.inj hx
    exact Option.some.inj (hg.symm.trans (show Tryz.prog.globalNamed "liaison/api.ErrFull" = some 5 by kernel_rfl))
  · obtain rfl := Option.some.inj hx
    exact Option.some.inj (hg.symm.trans (show Tryz.prog.globalNamed "liaison/api.ErrPower" = some 6 by kernel_rfl))
  · obtain rfl := Option.some.inj hx
    exact Option.some.inj (hg.symm.trans (show Tryz.prog.globalNamed "liaison/api.ErrNone" = some 7 by kernel_rfl))
  · obtain rfl := Option.some.inj hx
    exact Option.some.inj (hg.symm.trans (show Tryz.prog.globalNamed "liaison/api.ErrState" = some 8 by kernel_rfl))
  · obtain rfl := Option.some.inj hx
    exact Option.some.inj (hg.symm.trans (show Tryz.prog.globalNamed "liaison/api.ErrTwice" = some 9 by kernel_rfl))
  · obtain rfl := Option.some.inj hx
    exact Option.some.inj (hg.symm.trans (show Tryz.prog.globalNamed "liaison/api.ErrDepth" = some 10 by kernel_rfl))
  · obtain rfl := Option.some.inj hx
    exact Option.some.inj (hg.symm.trans (show Tryz.prog.globalNamed "liaison/api.ErrExpired" = some 11 by kernel_rfl))
  · obtain rfl := Option.some.inj hx
    exact Option.some.inj (hg.symm.trans (show Tryz.prog.globalNamed "liaison/api.ErrPanic" = some 12 by kernel_rfl))
  · obtain rfl := Option.some.inj hx
    exact Option.some.inj (hg.symm.trans (show Tryz.prog.globalNamed "liaison/api.ErrProtocol" = some 13 by kernel_rfl))
theorem errs_of_laid {W : World} {laid : List (String × DataW Unit)} (hf : laid.filter (fun x => errNames.contains x.1) = errLaid) (h : laidMetH Tryz.prog laid W) : ∃ E, Errs W E := by
  have h1 := laidMetH.filter (fun x => errNames.contains x.1) h
  rw [hf] at h1
  rw [MakeChecks.laidMetH_plain _ _ _ (by rfl)] at h1
  rw [errLaid_eq] at h1
  obtain ⟨ps, hv, hnd, hrows⟩ := h1
  obtain ⟨aa, hlen, hnd2, hin, hcell⟩ := sentinels_list Tryz.underlying30 errRow Tryz.underlying313 Tryz.underlying335 rfl rfl Tryz.underlying9 (by kernel_rfl) (by kernel_rfl) errTexts ps errGlobals hv hnd hrows
  have hl14 : aa.length = 14 := hlen
  refine ⟨fun i => aa.getD i ⟨0, 0, none⟩, ⟨fun i hi => ?_, fun i j hi hj hne he => ?_, fun i hi => ?_⟩⟩
  · have hx : i < errTexts.length := hi
    have ha : i < aa.length := by omega
    obtain ⟨g, hg, hc⟩ := hcell i errTexts[i] aa[i] (by simp [hx]) (by simp [ha])
    have := errGNum i errTexts[i] (by simp [hx]) g hg
    subst this
    rw [hc]
    simp [errAt, List.getD, ha]
  · have hi' : i < aa.length := by omega
    have hj' : j < aa.length := by omega
    simp only [List.getD, List.getElem?_eq_getElem hi', List.getElem?_eq_getElem hj', Option.getD_some] at he
    exact hne ((List.getElem_inj hnd2).1 he)
  · have hi' : i < aa.length := by omega
    simp only [List.getD, List.getElem?_eq_getElem hi', Option.getD_some]
    obtain ⟨hm, _⟩ := hin aa[i] (List.getElem_mem hi')
    exact (hrows _ _ hm).1
end Go.Proofs.YthboiahdheehkaaGreatDoor
namespace Go.Proofs.YthboiahdheehkaaGreatDoor
set_option maxHeartbeats 2000000
set_option maxRecDepth 100000
open Go.ChangeShapes Go.WideShapes Go.ChangeAt Go.RowKit
theorem lib_pow {W : World} {laid : List (String × DataW Unit)} (hf : laid.filter (fun x => x.1 == "internal/strconv.uint64pow10") = [("internal/strconv.uint64pow10", Rows.laid_internal_strconv_uint64pow10)]) (h : laidMetH Tryz.prog laid W) : Lib.TabIs Tryz.prog W "internal/strconv.uint64pow10" .u64 Lib.pow10Tab := by
  have h1 := laidMetH.filter (fun x => x.1 == "internal/strconv.uint64pow10") h
  rw [hf] at h1
  rw [MakeChecks.laidMetH_plain _ _ _ (by rfl)] at h1
  exact Lib.tabIs_of_head (g := 21) (rest := []) (zs := Lib.pow10Tab) (by kernel_rfl) (by kernel_rfl) Tryz.underlying307 Tryz.underlying288 (by kernel_rfl) (by kernel_rfl) h1
theorem lib_utf {W : World} {laid : List (String × DataW Unit)} (hf1 : laid.filter (fun x => x.1 == "unicode/utf8.first") = [("unicode/utf8.first", Rows.laid_unicode_utf8_first)]) (hf2 : laid.filter (fun x => x.1 == "unicode/utf8.acceptRanges") = [("unicode/utf8.acceptRanges", Rows.laid_unicode_utf8_acceptRanges)]) (h : laidMetH Tryz.prog laid W) : Lib.Utf8Tabs 18 19 W := by
  have h1 := laidMetH.filter (fun x => x.1 == "unicode/utf8.first") h
  rw [hf1] at h1
  rw [MakeChecks.laidMetH_plain _ _ _ (by rfl)] at h1
  have h2 := laidMetH.filter (fun x => x.1 == "unicode/utf8.acceptRanges") h
  rw [hf2] at h2
  rw [MakeChecks.laidMetH_plain _ _ _ (by rfl)] at h2
  exact utf8Tabs_of_readsT (U8Types.of196 Tryz.laysV196) ⟨by kernel_rfl, by kernel_rfl, by kernel_rfl, by kernel_rfl, by kernel_rfl, by kernel_rfl, by kernel_rfl⟩ (Lib.laidMet.reads h1 (.head _)) (Lib.laidMet.reads h2 (.head _))
theorem lib_of_laid {W : World} {laid : List (String × DataW Unit)} (hf0 : laid.filter (fun x => x.1 == "internal/strconv.uint64pow10") = [("internal/strconv.uint64pow10", Rows.laid_internal_strconv_uint64pow10)]) (hf1 : laid.filter (fun x => x.1 == "unicode/utf8.first") = [("unicode/utf8.first", Rows.laid_unicode_utf8_first)]) (hf2 : laid.filter (fun x => x.1 == "unicode/utf8.acceptRanges") = [("unicode/utf8.acceptRanges", Rows.laid_unicode_utf8_acceptRanges)]) (h : laidMetH Tryz.prog laid W) (hsh : W.ShapedOpen Tryz.prog) : LibG W :=
  ⟨Tryz.laysM145.s1_3 W hsh, lib_utf hf1 hf2 h, lib_pow hf0 h⟩
end Go.Proofs.YthboiahdheehkaaGreatDoor
namespace Go.Proofs.YthboiahdheehkaaGreatDoor
set_option maxHeartbeats 2000000
set_option maxRecDepth 100000
open Go.ChangeShapes Go.WideShapes Go.ChangeAt Go.RowKit
def strData {H : Type} (ls : List (List UInt8)) : DataW H := .agg (ls.map fun s => .lit (.string s))
theorem cells_of_strs {H : Type} {enc : TypeId × Value → H} {P : Program} {w : World} {base : Nat} {sp : Nat → Bool} {held : Bool} {fuel : Nat} {t e : TypeId} {n : Nat} {cs : List Value} {ls : List (List UInt8)} {p : List MemPlace}
    (ht : P.underlying t = some (.array n e)) (he : P.underlying e = some .string) (hce : P.cellsOf e = 1) (hct : P.cellsOf t = n)
    (h : DataW.trod enc P w base sp held fuel t cs = some (strData ls, p)) : cs = ls.map fun s => Value.string (bs s) := by
  cases fuel with
  | zero => simp [DataW.trod] at h
  | succ fuel =>
    simp only [DataW.trod, ht, hce, hct, Nat.mul_one] at h
    split at h
    · rename_i hl
      obtain ⟨xs, hm, hx⟩ := Option.map_eq_some_iff.1 h
      have hxs : xs.map (·.1) = ls.map fun s => (DataW.lit (.string s) : DataW H) := by
        have := congrArg Prod.fst hx
        simpa [strData] using this
      have hxl : xs.length = n := by simpa using Lib.mapM_length hm
      have hzl : ls.length = n := by
        have := congrArg List.length hxs
        simp at this
        omega
      apply List.ext_getElem?
      intro i
      by_cases hi : i < n
      · obtain ⟨b, hb, hf⟩ := Lib.mapM_at hm i i (by simp [hi])
        obtain ⟨z, hc, rfl, _⟩ := DataW.trod_string he hf
        have h1 : cs[i]? = some (.string z) := by
          have := congrArg (·[0]?) hc
          simpa [List.getElem?_take, List.getElem?_drop] using this
        have h2 : (xs.map (·.1))[i]? = some (DataW.lit (.string z.data.toList) : DataW H) := by simp [hb]
        rw [hxs] at h2
        simp only [List.getElem?_map, Option.map_eq_some_iff, DataW.lit.injEq, Lit.string.injEq] at h2
        obtain ⟨z', hz', e2⟩ := h2
        have e3 : bs z' = z := by
          subst e2
          simp [bs]
        simp [h1, hz', e3]
      · rw [List.getElem?_eq_none (by omega), List.getElem?_eq_none (by simp; omega)]
    · cases h
theorem tab_of_head {P : Program} {W : World} {name : String} {ls : List (List UInt8)} {rest : List (String × DataW Unit)} {g : Nat} {t e : TypeId} {n : Nat}
    (hg : P.globalNamed name = some g) (hty : (P.globals[g]?).map (·.type) = some t) (ht : P.underlying t = some (.array n e)) (he : P.underlying e = some .string) (hce : P.cellsOf e = 1) (hct : P.cellsOf t = n)
    (h : laidMet P ((name, strData ls) :: rest) W) : Tab W g ls := by
  obtain ⟨ps, ⟨g', t', cs, fuel, p, q, hg', ht', hvar, hd, _, _⟩, _⟩ := h
  obtain rfl := Option.some.inj (hg.symm.trans hg')
  obtain rfl := Option.some.inj (hty.symm.trans ht')
  have hcs := cells_of_strs ht he hce hct hd
  intro i hi
  have := World.var?_cell hg' hvar i
  rw [this, show cs[i]? = cs.toList[i]? by simp, hcs]
  simp [List.getD, hi]
theorem kinds_tab {W : World} {laid : List (String × DataW Unit)} (hf : laid.filter (fun x => x.1 == "liaison/binding.kinds") = [("liaison/binding.kinds", Rows.laid_liaison_binding_kinds)]) (h : laidMetH Tryz.prog laid W) : Tab W 14 kindsL := by
  have h1 := laidMetH.filter (fun x => x.1 == "liaison/binding.kinds") h
  rw [hf] at h1
  rw [MakeChecks.laidMetH_plain _ _ _ (by rfl)] at h1
  exact tab_of_head (rest := []) (by kernel_rfl) (by kernel_rfl) Tryz.underlying173 Tryz.underlying9 (by kernel_rfl) (by kernel_rfl) h1
theorem states_tab {W : World} {laid : List (String × DataW Unit)} (hf : laid.filter (fun x => x.1 == "liaison/binding.states") = [("liaison/binding.states", Rows.laid_liaison_binding_states)]) (h : laidMetH Tryz.prog laid W) : Tab W 16 statesL := by
  have h1 := laidMetH.filter (fun x => x.1 == "liaison/binding.states") h
  rw [hf] at h1
  rw [MakeChecks.laidMetH_plain _ _ _ (by rfl)] at h1
  exact tab_of_head (rest := []) (by kernel_rfl) (by kernel_rfl) Tryz.underlying232 Tryz.underlying9 (by kernel_rfl) (by kernel_rfl) h1
theorem codes_tab {W : World} {laid : List (String × DataW Unit)} (hf : laid.filter (fun x => x.1 == "liaison/binding.codes") = [("liaison/binding.codes", Rows.laid_liaison_binding_codes)]) (h : laidMetH Tryz.prog laid W) : Tab W 17 codesL := by
  have h1 := laidMetH.filter (fun x => x.1 == "liaison/binding.codes") h
  rw [hf] at h1
  rw [MakeChecks.laidMetH_plain _ _ _ (by rfl)] at h1
  exact tab_of_head (rest := []) (by kernel_rfl) (by kernel_rfl) Tryz.underlying35 Tryz.underlying9 (by kernel_rfl) (by kernel_rfl) h1
theorem prots_tab {W : World} {laid : List (String × DataW Unit)} (hf : laid.filter (fun x => x.1 == "liaison/binding.protocols") = [("liaison/binding.protocols", Rows.laid_liaison_binding_protocols)]) (h : laidMetH Tryz.prog laid W) : Tab W 15 protsL := by
  have h1 := laidMetH.filter (fun x => x.1 == "liaison/binding.protocols") h
  rw [hf] at h1
  rw [MakeChecks.laidMetH_plain _ _ _ (by rfl)] at h1
  exact tab_of_head (rest := []) (by kernel_rfl) (by kernel_rfl) Tryz.underlying178 Tryz.underlying9 (by kernel_rfl) (by kernel_rfl) h1
theorem tabs_of_laid {W : World} {laid : List (String × DataW Unit)} (h1 : laid.filter (fun x => x.1 == "liaison/binding.kinds") = [("liaison/binding.kinds", Rows.laid_liaison_binding_kinds)]) (h2 : laid.filter (fun x => x.1 == "liaison/binding.states") = [("liaison/binding.states", Rows.laid_liaison_binding_states)]) (h3 : laid.filter (fun x => x.1 == "liaison/binding.codes") = [("liaison/binding.codes", Rows.laid_liaison_binding_codes)]) (h4 : laid.filter (fun x => x.1 == "liaison/binding.protocols") = [("liaison/binding.protocols", Rows.laid_liaison_binding_protocols)]) (h : laidMetH Tryz.prog laid W) : TabB W :=
  ⟨kinds_tab h1 h, states_tab h2 h, codes_tab h3 h, prots_tab h4 h⟩
end Go.Proofs.YthboiahdheehkaaGreatDoor
namespace Go.Proofs.YthboiahdheehkaaGreatDoor
set_option maxHeartbeats 2000000
set_option maxRecDepth 100000
open Go.RowKit Go.ChangeShapes Go.WideShapes Go.ChangeAt
theorem array11 {α : Type} {cs : Array α} (h : cs.size = 11) : ∃ c0 c1 c2 c3 c4 c5 c6 c7 c8 c9 c10, cs = #[c0, c1, c2, c3, c4, c5, c6, c7, c8, c9, c10] := by
  obtain ⟨l⟩ := cs
  match l, h with
  | [c0, c1, c2, c3, c4, c5, c6, c7, c8, c9, c10], _ => exact ⟨c0, c1, c2, c3, c4, c5, c6, c7, c8, c9, c10, rfl⟩
section
variable {H : Type} {enc : TypeId × Value → H}
theorem trod_struct8 {P : Program} {w : World} {base : Nat} {spare : Nat → Bool} {held : Bool} {t : TypeId} {f0 f1 f2 f3 f4 f5 f6 f7 : Field} {fuel : Nat} {cs : List Value} {x : DataW H × List MemPlace}
    (ht : P.underlying t = some (.struct #[f0, f1, f2, f3, f4, f5, f6, f7])) (h : DataW.trod enc P w base spare held fuel t cs = some x) :
    ∃ (y0 y1 y2 y3 y4 y5 y6 y7 : DataW H × List MemPlace) (n : Nat), DataW.trod enc P w base spare held n f0.type ((cs.drop f0.offset).take (P.cellsOf f0.type)) = some y0 ∧
      DataW.trod enc P w base spare held n f1.type ((cs.drop f1.offset).take (P.cellsOf f1.type)) = some y1 ∧ DataW.trod enc P w base spare held n f2.type ((cs.drop f2.offset).take (P.cellsOf f2.type)) = some y2 ∧
      DataW.trod enc P w base spare held n f3.type ((cs.drop f3.offset).take (P.cellsOf f3.type)) = some y3 ∧ DataW.trod enc P w base spare held n f4.type ((cs.drop f4.offset).take (P.cellsOf f4.type)) = some y4 ∧
      DataW.trod enc P w base spare held n f5.type ((cs.drop f5.offset).take (P.cellsOf f5.type)) = some y5 ∧ DataW.trod enc P w base spare held n f6.type ((cs.drop f6.offset).take (P.cellsOf f6.type)) = some y6 ∧
      DataW.trod enc P w base spare held n f7.type ((cs.drop f7.offset).take (P.cellsOf f7.type)) = some y7 := by
  obtain ⟨xs, n, _, rfl, hl, hlen, hf⟩ := DataW.trod_struct ht h
  match xs, hlen with
  | [y0, y1, y2, y3, y4, y5, y6, y7], _ =>
    exact ⟨y0, y1, y2, y3, y4, y5, y6, y7, n, by simpa using hf 0 f0 rfl, by simpa using hf 1 f1 rfl, by simpa using hf 2 f2 rfl, by simpa using hf 3 f3 rfl, by simpa using hf 4 f4 rfl, by simpa using hf 5 f5 rfl, by simpa using hf 6 f6 rfl, by simpa using hf 7 f7 rfl⟩
theorem trod_struct3 {P : Program} {w : World} {base : Nat} {spare : Nat → Bool} {held : Bool} {t : TypeId} {f0 f1 f2 : Field} {fuel : Nat} {cs : List Value} {x : DataW H × List MemPlace}
    (ht : P.underlying t = some (.struct #[f0, f1, f2])) (h : DataW.trod enc P w base spare held fuel t cs = some x) :
    ∃ (y0 y1 y2 : DataW H × List MemPlace) (n : Nat), DataW.trod enc P w base spare held n f0.type ((cs.drop f0.offset).take (P.cellsOf f0.type)) = some y0 ∧
      DataW.trod enc P w base spare held n f1.type ((cs.drop f1.offset).take (P.cellsOf f1.type)) = some y1 ∧ DataW.trod enc P w base spare held n f2.type ((cs.drop f2.offset).take (P.cellsOf f2.type)) = some y2 := by
  obtain ⟨xs, n, _, rfl, hl, hlen, hf⟩ := DataW.trod_struct ht h
  match xs, hlen with
  | [y0, y1, y2], _ =>
    exact ⟨y0, y1, y2, n, by simpa using hf 0 f0 rfl, by simpa using hf 1 f1 rfl, by simpa using hf 2 f2 rfl⟩
theorem open_bnd {w : World} {spare : Nat → Bool} {base : Nat} {held : Bool} {r : Reach} {b0 : Nat} {v : Value} {d : DataW H} {ps : List MemPlace}
    (hval : Value.okWide Tryz.prog w r b0 27 v) (hd : DataW.Trod enc Tryz.prog w base spare held 27 v d ps) : ∃ b : Bnd, v = bndV b ∧ b.m.wf ∧ inI b.i ∧ inI b.r := by
  obtain ⟨cs, rfl, hsz⟩ := okWide_struct Tryz.underlying27 hval
  obtain ⟨c0, c1, c2, c3, c4, c5, c6, c7, c8, c9, c10, rfl⟩ := array11 (hsz.trans (by kernel_rfl))
  obtain ⟨fuel, hf⟩ := hd
  obtain ⟨x0, x1, x2, n', g0', g1', g2'⟩ := trod_struct3 Tryz.underlying27 hf
  have kM : Tryz.prog.cellsOf 25 = 9 := by kernel_rfl
  have k0 : Tryz.prog.cellsOf 23 = 2 := by kernel_rfl
  have k1 : Tryz.prog.cellsOf 3 = 1 := by kernel_rfl
  simp only [Value.cells, kM, k1, List.drop_succ_cons, List.drop_zero, List.take_succ_cons, List.take_zero] at g0' g1' g2'
  obtain ⟨y0, y1, y2, y3, y4, y5, y6, y7, n, h0, h1, h2, h3, h4, h5, h6, h7⟩ := trod_struct8 Tryz.underlying25 g0'
  simp only [k0, k1, List.drop_succ_cons, List.drop_zero, List.take_succ_cons, List.take_zero] at h0 h1 h2 h3 h4 h5 h6 h7
  obtain ⟨z0, z1, m, _, _, g0, g1⟩ := trod_struct2 Tryz.underlying23 h3
  simp only [k1, List.drop_succ_cons, List.drop_zero, List.take_succ_cons, List.take_zero] at g0 g1
  obtain ⟨a0, rfl, e0⟩ := trod_i64 Tryz.underlying3 h0
  obtain ⟨a1, rfl, e1⟩ := trod_i64 Tryz.underlying3 h1
  obtain ⟨a2, rfl, e2⟩ := trod_i64 Tryz.underlying3 h2
  obtain ⟨a3, rfl, e3⟩ := trod_i64 Tryz.underlying3 g0
  obtain ⟨a4, rfl, e4⟩ := trod_i64 Tryz.underlying3 g1
  obtain ⟨a5, rfl, e5⟩ := trod_i64 Tryz.underlying3 h4
  obtain ⟨a6, rfl, e6⟩ := trod_i64 Tryz.underlying3 h5
  obtain ⟨a7, rfl, e7⟩ := trod_i64 Tryz.underlying3 h6
  obtain ⟨a8, rfl, e8⟩ := trod_i64 Tryz.underlying3 h7
  obtain ⟨a9, rfl, e9⟩ := trod_i64 Tryz.underlying3 g1'
  obtain ⟨a10, rfl, e10⟩ := trod_i64 Tryz.underlying3 g2'
  refine ⟨⟨⟨a0, a1, a2, a3, a4, a5, a6, a7, a8⟩, a9, a10⟩, rfl, ?_, int_bd e9, int_bd e10⟩
  intro x hx
  unfold Msg.l at hx
  simp only [List.mem_cons, List.not_mem_nil, or_false] at hx
  unfold inI
  rcases hx with rfl | rfl | rfl | rfl | rfl | rfl | rfl | rfl | rfl
  · exact int_bd e0
  · exact int_bd e1
  · exact int_bd e2
  · exact int_bd e3
  · exact int_bd e4
  · exact int_bd e5
  · exact int_bd e6
  · exact int_bd e7
  · exact int_bd e8
end
end Go.Proofs.YthboiahdheehkaaGreatDoor
