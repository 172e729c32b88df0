/-
  Close: from 'the call answers true and leaves all old memory as it was' to what a row asks of a law. No program.
  LaidErr: what the listed errors give a walk: 'Errs'.
  LaidLib: what the laid tables, and the world's shape, give a walk: 'LibG'.
-/
import Derived.Test.YtkghpmpmcafhkaaGreatDoorBA
import Derived.ChangeSame
import Derived.OpenShut
import Derived.Deep.DeepHandedRow
import Derived.Lib.LaidTab
import Derived.Test.YtkghpmpmcafhkaaGreatDoorRows
import Derived.Stop.LaidErr
import Derived.LaidSub
import Derived.MakeChecks
import Derived.Test.YtkghpmpmcafhkaaGreatDoorPC
import Derived.Lib.LaidU8T
import Derived.ShapedOpen
namespace Go.Proofs.YtkghpmpmcafhkaaGreatDoor
open Go.RowKit Go.ChangeShapes Go.WideShapes Go.ChangeAt

section
variable {H : Type} {enc : TypeId × Value → H} {P : Program}

/-- what was read before reads the same after, argument by argument -/
theorem trodAll_stays (hl : laidOutB P = true) {W W' : World} {sp : Nat → Bool} : ∀ (ts : List TypeId) (vs : List Value) (ds : List (DataW H)) (ps : List MemPlace),
    DataW.TrodAll enc P W 0 (fun _ => true) true ts vs ds ps → (∀ t ∈ ts, P.readableRec t = true ∧ t < P.types.size) → (∀ p ∈ ps, W.sameAt W' p) → (∀ p ∈ ps, sp p.block = true) →
    DataW.TrodAll enc P W' 0 sp true ts vs ds ps
  | [], [], [], ps, h, _, _, _ => h
  | t :: ts, v :: vs, d :: ds, ps, h, ht, hsame, hs => by
    obtain ⟨p, q, h1, h2, rfl⟩ := h
    have a := ht t (by simp)
    refine ⟨p, q, WideElems.Trod_stays hl a.1 a.2 h1 (fun x hx => hsame x (by simp [hx])) (fun x hx => hs x (by simp [hx])), ?_, rfl⟩
    exact trodAll_stays hl ts vs ds q h2 (fun t ht' => ht t (by simp [ht'])) (fun x hx => hsame x (by simp [hx])) (fun x hx => hs x (by simp [hx]))
  | [], _ :: _, _, _, h, _, _, _ => h.elim
  | [], [], _ :: _, _, h, _, _, _ => h.elim
  | _ :: _, [], _, _, h, _, _, _ => h.elim
  | _ :: _, _ :: _, [], _, h, _, _, _ => h.elim

/-- THE CLOSE: a law's call that answered true in a world below which nothing has turned. -/
theorem law_post {f : Func} {s : ChangeSpec} {apart fresh handsOn again : Bool} {W W' : World} {args : Array Value} {ds gs : List (DataW H)} {before : List MemPlace} {T : TypeId}
    (hl : laidOutB P = true) (ht : ∀ t ∈ f.params.toList, P.readableRec t = true ∧ t < P.types.size) (hT : f.resultTypes = #[T]) (hTb : P.underlying T = some .bool)
    (hW : DataW.Whole enc P f.params.toList s.vars apart W args.toList ds gs before) (hb : Below W.heap.size W W') (hvs : s.vars = [])
    (hres : (s.fn H ds).results = [.lit (.bool true)]) (hargs : (s.fn H ds).args = ds) (hvars : (s.fn H ds).vars = []) :
    s.post enc P f apart fresh handsOn again W args (.bool true) W' := by
  have hlt : ∀ p ∈ before, p.block < W.heap.size := fun p hp => hW.lt p hp
  have hw := hW
  obtain ⟨p, q, hA, hV, hpq, hz, hn⟩ := hW
  rw [hvs] at hV
  obtain ⟨rfl, rfl⟩ := trodVars_none hV
  rw [List.append_nil] at hpq
  subst hpq
  have hV0 : ∀ {w : World} {sp : Nat → Bool}, DataW.TrodVars enc P w sp [] [] [] := rfl
  have hshut : ∀ (b : Nat) (sp : Nat → Bool) (hd : Bool), DataW.TrodAll enc P W' b sp hd [T] [Value.bool true] [.lit (.bool true)] [] :=
    fun _ _ _ => trodAll_mk1 (shut_bool hTb true)
  have hstay : ∀ sp : Nat → Bool, (∀ x ∈ before, sp x.block = true) → DataW.TrodAll enc P W' 0 sp true f.params.toList args.toList ds before :=
    fun sp hs => trodAll_stays hl _ _ _ _ hA ht (fun x hx => hb.same (hlt x hx)) hs
  have hsz : f.resultTypes.size = 1 := by rw [hT]; rfl
  refine ⟨ds, [], before, [], before, [], hw, ?_, ?_, ?_, ?_, fun _ => ⟨?_, ?_⟩⟩
  · rw [List.append_nil, hres, hsz, hT]; exact hshut _ _ _
  · rw [List.append_nil, hargs]; exact hstay _ (fun x hx => by simpa using hlt x hx)
  · rw [List.append_nil, hvs, hvars]
    exact hV0
  · exact World.keptBut_mono (fun x hx => ⟨hx, .inr (.inl hx)⟩) (hb.frame (· ∈ before))
  · exact ok_one (by rw [hT]) rfl (okWide_bool_mk hTb true)
  · refine ⟨[.lit (.bool true)] ++ ds, [], [] ++ before, ⟨[] ++ before, [], ?_, by rw [hvs]; exact hV0, by simp, ?_, ?_⟩, fun x hx _ => by simpa using hx⟩
    · rw [hsz, hT]
      exact trodAll_append (hstay (fun _ => true) (fun _ _ => rfl)) (hshut _ _ _)
    · intro b off hp
      have hin : MemPlace.cell b off ∈ before := by simpa using hp
      rw [hb.frozen (hlt _ hin)]
      exact hz b off hin
    · intro ha; simpa using hn ha

theorem trod_i64 {w : World} {base : Nat} {sp : Nat → Bool} {held : Bool} {fuel : Nat} {e : TypeId} {v : Value} {x : DataW H × List MemPlace}
    (he : P.underlying e = some (.int .i64)) (h : DataW.trod enc P w base sp held fuel e [v] = some x) : ∃ y : Int, v = .int .i64 y ∧ (Lit.int .i64 y).wf = true := by
  cases fuel with
  | zero => simp [DataW.trod] at h
  | succ n =>
    simp only [DataW.trod, he] at h
    split at h
    all_goals rename_i he2 hcs
    all_goals first | (cases h; done) | (cases he2; done) | skip
    all_goals
      first
        | (cases hcs; done)
        | (simp only [TypeDesc.int.injEq, Option.some.injEq] at he2
           subst he2
           simp only [List.cons.injEq, and_true] at hcs
           subst hcs
           split at h
           · rename_i hw
             obtain ⟨rfl, hw⟩ := hw
             exact ⟨_, rfl, hw⟩
           · cases h)

/-! ### opening arguments -/
theorem int_u8 {x : Int} (h : (Lit.int .u8 x).wf = true) : ∃ y : UInt8, x = (y.toNat : Int) := ⟨UInt8.ofNat x.toNat, by
  simp [Lit.wf, IntKind.min, IntKind.max, IntKind.signed, IntKind.bits] at h
  rw [UInt8.toNat_ofNat']; omega⟩
theorem int_u32 {x : Int} (h : (Lit.int .u32 x).wf = true) : ∃ y : BitVec 32, x = n32 y := ⟨BitVec.ofNat 32 x.toNat, by
  simp [Lit.wf, IntKind.min, IntKind.max, IntKind.signed, IntKind.bits] at h
  unfold n32; rw [BitVec.toNat_ofNat]; omega⟩
theorem int_bd {x : Int} (h : (Lit.int .i64 x).wf = true) : -9223372036854775808 ≤ x ∧ x ≤ 9223372036854775807 := by
  simpa [Lit.wf, IntKind.min, IntKind.max, IntKind.signed, IntKind.bits] using h
theorem int_u64 {x : Int} (h : (Lit.int .u64 x).wf = true) : ∃ y : Nat, x = (y : Int) ∧ y < 18446744073709551616 := ⟨x.toNat, by
  simp [Lit.wf, IntKind.min, IntKind.max, IntKind.signed, IntKind.bits] at h
  omega⟩
theorem open_f64 {w : World} {spare : Nat → Bool} {base : Nat} {held : Bool} {r : Reach} {b0 : Nat} {t : TypeId} {v : Value} {d : DataW H} {ps : List MemPlace} (ht : P.underlying t = some (.float .f64)) (hval : Value.okWide P w r b0 t v) (hd : DataW.Trod enc P w base spare held t v d ps) :
    ∃ y : Nat, v = .float .f64 y ∧ y < 18446744073709551616 := by
  obtain ⟨b, rfl, _, _, hw⟩ := open_float ht hval hd
  exact ⟨b, rfl, by simpa [Lit.wf] using hw⟩
theorem open_byt {t e : TypeId} {w : World} {base : Nat} {sp : Nat → Bool} {held : Bool} {fuel : Nat} {cs : List Value} {x : DataW H × List MemPlace}
    (ht : P.underlying t = some (.slice e)) (he : P.underlying e = some (.int .u8)) (hc : P.cellsOf e = 1) (h : DataW.trod enc P w base sp held fuel t cs = some x) :
    ∃ v l, cs = [v] ∧ Byt w v l := by
  rcases open_ints ht he hc h with ⟨rfl, _⟩ | ⟨a, len, cap, zs, rfl, _, hlc, hm, hzl, _, hcell, hwf⟩
  · exact ⟨_, [], rfl, none, 0, rfl, by simp, by unfold maxLen; omega, .inl rfl⟩
  · have hlz : len ≤ zs.length := by rw [hzl]; split <;> omega
    refine ⟨_, (zs.take len).map (fun z => UInt8.ofNat z.toNat), rfl, some a, cap, by simp [Nat.min_eq_left hlz], by simpa [Nat.min_eq_left hlz] using hlc, hm, ?_⟩
    by_cases h0 : len = 0
    · left; subst h0; simp [bvs]
    · right
      have h00 := hcell 0 (by omega)
      have hsp : a.spot = none := by
        have : a.add 0 = a := by simp [Addr.add]
        rw [this] at h00
        unfold World.cell? at h00
        split at h00
        · split at h00
          · cases h00
          · rename_i hs; simpa using hs
        · cases h00
      obtain ⟨b, off, s⟩ := a
      simp only at hsp
      subst hsp
      refine ⟨b, off, rfl, fun i u hu => ?_⟩
      simp only [bvs, List.map_map, List.getElem?_map, Option.map_eq_some_iff] at hu
      obtain ⟨z, hz, rfl⟩ := hu
      rw [List.getElem?_take] at hz
      split at hz
      · rename_i hi
        have hci := hcell i (by omega)
        rw [cell_add] at hci
        rw [hci]
        have hzd : zs.getD i 0 = z := by simp [List.getD, hz]
        rw [hzd]
        have hw := hwf z (List.mem_of_getElem? hz)
        simp [Lit.wf, IntKind.min, IntKind.max, IntKind.signed, IntKind.bits] at hw
        show some (Value.int .u8 z) = some (bv (UInt8.ofNat z.toNat))
        have : ((UInt8.ofNat z.toNat).toNat : Int) = z := by
          rw [UInt8.toNat_ofNat']; omega
        rw [bv, this]
      · cases hz

theorem open_bytl {t e q : TypeId} {w : World} {base : Nat} {sp : Nat → Bool} {held : Bool} {fuel : Nat} {cs : List Value} {x : DataW H × List MemPlace}
    (ht : P.underlying t = some (.slice e)) (hce : P.cellsOf e = 1) (he : P.underlying e = some (.slice q)) (hq : P.underlying q = some (.int .u8)) (hcq : P.cellsOf q = 1) (h : DataW.trod enc P w base sp held fuel t cs = some x) :
    ∃ v ls, cs = [v] ∧ BytL w v ls := by
  rcases Deep.open_slice1 ht hce h with ⟨rfl, _⟩ | ⟨a, len, cap, m, n, V, D, Pl, rfl, _, hlc, hm, hmm, _, hcell⟩
  · exact ⟨_, [], rfl, none, 0, [], rfl, by simp, by unfold maxLen; omega, .inl rfl, rfl, by intro i l hl; simp at hl⟩
  · have hlm : len ≤ m := by rw [hmm]; split <;> omega
    have hall : ∀ i, ∃ l, i < m → Byt w (V i) l := by
      intro i
      by_cases hi : i < m
      · obtain ⟨v, l, hv, hb⟩ := open_byt he hq hcq (hcell i hi).2
        cases hv
        exact ⟨l, fun _ => hb⟩
      · exact ⟨[], fun h => absurd h hi⟩
    obtain ⟨L, hL⟩ := Classical.axiomOfChoice hall
    refine ⟨_, (List.range len).map L, rfl, some a, cap, (List.range len).map V, by simp, by simpa using hlc, hm, ?_, by simp, ?_⟩
    · by_cases h0 : len = 0
      · left; subst h0; rfl
      · right
        have h00 := (hcell 0 (by omega)).1
        have hsp : a.spot = none := by
          have : a.add 0 = a := by simp [Addr.add]
          rw [this] at h00
          unfold World.cell? at h00
          split at h00
          · split at h00
            · cases h00
            · rename_i hs; simpa using hs
          · cases h00
        obtain ⟨b, off, s⟩ := a
        simp only at hsp
        subst hsp
        refine ⟨b, off, rfl, fun i u hu => ?_⟩
        simp only [List.getElem?_map, Option.map_eq_some_iff] at hu
        obtain ⟨j, hj, rfl⟩ := hu
        obtain ⟨hi, rfl⟩ := List.getElem?_eq_some_iff.1 hj
        simp only [List.length_range] at hi
        simp only [List.getElem_range]
        have := (hcell i (by omega)).1
        rwa [cell_add] at this
    · intro i l hl
      simp only [List.getElem?_map, Option.map_eq_some_iff] at hl
      obtain ⟨j, hj, rfl⟩ := hl
      obtain ⟨hi, rfl⟩ := List.getElem?_eq_some_iff.1 hj
      simp only [List.length_range] at hi
      simp only [List.getElem_range]
      exact ⟨V i, by simp [hi], hL i (by omega)⟩
theorem okWide_arr {w : World} {r : Reach} {b0 n : Nat} {t e : TypeId} {v : Value} (ht : P.underlying t = some (.array n e)) (h : Value.okWide P w r b0 t v) : ∃ cs, v = .agg cs ∧ cs.size = P.cellsOf t := by
  simp only [Value.okWide, ht] at h
  obtain ⟨cs, h1, h2, _⟩ := h
  exact ⟨cs, h1, h2⟩
theorem open_arr2 {w : World} {spare : Nat → Bool} {base : Nat} {held : Bool} {r : Reach} {b0 : Nat} {t e : TypeId} {v : Value} {d : DataW H} {ps : List MemPlace} (ht : P.underlying t = some (.array 2 e)) (he : P.underlying e = some (.int .i64)) (hce : P.cellsOf e = 1) (hct : P.cellsOf t = 2)
    (hval : Value.okWide P w r b0 t v) (hd : DataW.Trod enc P w base spare held t v d ps) : ∃ x y : Int, v = .agg #[.int .i64 x, .int .i64 y] ∧ (Lit.int .i64 x).wf = true ∧ (Lit.int .i64 y).wf = true := by
  obtain ⟨cs, rfl, hsz⟩ := okWide_arr ht hval
  rw [hct] at hsz
  obtain ⟨fuel, hf⟩ := hd
  obtain ⟨xs, m, _, _, _, hlen, hi⟩ := DataW.trod_array ht hf
  obtain ⟨l⟩ := cs
  match l, hsz with
  | [c0, c1], _ =>
    have h0 := hi 0 (by omega)
    have h1 := hi 1 (by omega)
    rw [hce] at h0 h1
    have hx0 : xs[0]? = some (xs[0]'(by omega)) := List.getElem?_eq_getElem (by omega)
    have hx1 : xs[1]? = some (xs[1]'(by omega)) := List.getElem?_eq_getElem (by omega)
    obtain ⟨x, hx, hw⟩ := trod_i64 he (h0.trans hx0)
    obtain ⟨y, hy, hw'⟩ := trod_i64 he (h1.trans hx1)
    subst hx hy
    exact ⟨x, y, rfl, hw, hw'⟩
end
end Go.Proofs.YtkghpmpmcafhkaaGreatDoor

namespace Go.Proofs.YtkghpmpmcafhkaaGreatDoor
open Go.ChangeShapes Go.WideShapes Go.ChangeAt Go.RowKit

section
variable {P : Program} {nm : String} {W : World} {ti tp te ts : TypeId} {ms : Array (String × TypeId)} {f : Field}
def sentinel (nm : String) (text : List UInt8) : DataW Unit := .iface nm (.ptr (.agg [.lit (.string text)]))
theorem sentinels_list (hi : P.underlying ti = some (.interface ms)) (hrow : ∀ u, P.typeName? 3 u = some nm → u = tp)
    (hp : P.underlying tp = some (.pointer te)) (he : P.underlying te = some (.struct #[f])) (hft : f.type = ts) (hfo : f.offset = 0) (hs : P.underlying ts = some .string) (hc : P.cellsOf te = 1) (hcs : P.cellsOf ts = 1) :
    ∀ (L : List (String × List UInt8)) (ps : List MemPlace), (∀ x ∈ L, ∃ g, P.globalNamed x.1 = some g ∧ (P.globals[g]?).map (·.type) = some ti) →
      DataW.LaidVars P W (L.map fun x => (x.1, sentinel nm x.2)) ps → ps.Nodup → (∀ b off, MemPlace.cell b off ∈ ps → (∃ c t, W.heap[b]? = some (.cells c t (0, 0))) ∧ ∀ u v, W.cell? ⟨b, off, none⟩ = some (.iface u v) → Value.okWide P W .any 0 u v) →
      ∃ aa : List Addr, aa.length = L.length ∧ aa.Nodup ∧ (∀ a ∈ aa, MemPlace.cell a.block a.off ∈ ps ∧ a.spot = none) ∧
        ∀ (i : Nat) x a, L[i]? = some x → aa[i]? = some a → ∃ g, P.globalNamed x.1 = some g ∧ W.cell? ⟨g, 0, none⟩ = some (.iface tp (.pointer (some a)))
  | [], ps, _, _, _, _ => ⟨[], rfl, List.nodup_nil, by simp, by simp⟩
  | x :: L, ps, hg, h, hnd, hrows => by
    obtain ⟨g', t', cs, fl, p, q, hg', ht', hv, hd, hrest, e⟩ := h
    obtain ⟨g, hgx, htx⟩ := hg x (by simp)
    obtain rfl := Option.some.inj (hgx.symm.trans hg')
    obtain rfl := Option.some.inj (htx.symm.trans ht')
    subst e
    obtain ⟨l0⟩ := cs
    have hnd2 := List.nodup_append.1 hnd
    obtain ⟨aa, h1, h2, h3, h4⟩ := sentinels_list hi hrow hp he hft hfo hs hc hcs L q (fun y hy => hg y (by simp [hy])) hrest hnd2.2.1 (fun b off hm => hrows b off (by simp [hm]))
    have ok0 : ∀ u v, l0 = [.iface u v] → Value.okWide P W .any 0 u v := fun u v e => by
      subst e
      exact (hrows g 0 (by simp [MemPlace.row])).2 u v (by simpa using World.var?_cell hg' hv 0)
    obtain ⟨a0, s0, rfl, hc0, hs0, hz0, rfl⟩ := errorString_of_trod hi hrow hp he hft hfo hs hc hcs hd ok0
    have hspot : a0.spot = none := by
      unfold World.cell? at hc0
      split at hc0
      · split at hc0
        · cases hc0
        · rename_i hs; simpa using hs
      · cases hc0
    refine ⟨a0 :: aa, by simp [h1], List.nodup_cons.2 ⟨fun hm => ?_, h2⟩, ?_, ?_⟩
    · have h5 := (h3 a0 hm).1
      exact hnd2.2.2 _ (by simp [MemPlace.row]) _ h5 rfl
    · intro a ha
      rcases List.mem_cons.1 ha with rfl | ha
      · exact ⟨by simp [MemPlace.row], hspot⟩
      · exact ⟨by simp [(h3 a ha).1], (h3 a ha).2⟩
    · intro i y a hy ha
      cases i with
      | zero =>
        simp only [List.getElem?_cons_zero, Option.some.injEq] at hy ha
        subst hy ha
        exact ⟨g, hg', by simpa using World.var?_cell hg' hv 0⟩
      | succ i => exact h4 i y a (by simpa using hy) (by simpa using ha)
end

def errNames : List String := ["liaison/api.ErrRange", "liaison/api.ErrShort", "liaison/api.ErrLong", "liaison/api.ErrForm", "liaison/api.ErrCheck", "liaison/api.ErrFull", "liaison/api.ErrPower", "liaison/api.ErrNone", "liaison/api.ErrState", "liaison/api.ErrTwice", "liaison/api.ErrDepth", "liaison/api.ErrExpired", "liaison/api.ErrPanic", "liaison/api.ErrProtocol"]
def errLaid : List (String × DataW Unit) := [("liaison/api.ErrRange", Rows.laid_liaison_api_ErrRange), ("liaison/api.ErrShort", Rows.laid_liaison_api_ErrShort), ("liaison/api.ErrLong", Rows.laid_liaison_api_ErrLong), ("liaison/api.ErrForm", Rows.laid_liaison_api_ErrForm), ("liaison/api.ErrCheck", Rows.laid_liaison_api_ErrCheck), ("liaison/api.ErrFull", Rows.laid_liaison_api_ErrFull), ("liaison/api.ErrPower", Rows.laid_liaison_api_ErrPower), ("liaison/api.ErrNone", Rows.laid_liaison_api_ErrNone), ("liaison/api.ErrState", Rows.laid_liaison_api_ErrState), ("liaison/api.ErrTwice", Rows.laid_liaison_api_ErrTwice), ("liaison/api.ErrDepth", Rows.laid_liaison_api_ErrDepth), ("liaison/api.ErrExpired", Rows.laid_liaison_api_ErrExpired), ("liaison/api.ErrPanic", Rows.laid_liaison_api_ErrPanic), ("liaison/api.ErrProtocol", Rows.laid_liaison_api_ErrProtocol)]
def errTexts : List (String × List UInt8) := errLaid.map fun x => (x.1, match x.2 with | .iface _ (.ptr (.agg [.lit (.string s)])) => s | _ => [])
theorem errLaid_eq : errLaid = errTexts.map fun x => (x.1, sentinel "*errors.errorString" x.2) := by rfl
theorem errStar : "*" ++ "errors.errorString" = "*errors.errorString" := by decide
theorem errRow (u : TypeId) (h : Tryz.prog.typeName? 3 u = some "*errors.errorString") : u = 244 :=
  typeName_ptr_named (nm := "errors.errorString") (by rw [errStar]; kernel_rfl) (by kernel_rfl) (by decide) u (by rw [errStar]; exact h)
theorem errGlobals : ∀ x ∈ errTexts, ∃ g, Tryz.prog.globalNamed x.1 = some g ∧ (Tryz.prog.globals[g]?).map (·.type) = some 37 := by
  intro x hx
  have hm : x.1 ∈ errNames := by
    have := List.mem_map_of_mem (f := (·.1)) hx
    exact this
  simp only [errNames, List.mem_cons, List.not_mem_nil, or_false] at hm
  rcases hm with h | h | h | h | h | h | h | h | h | h | h | h | h | h
  · rw [h]; exact ⟨0, by kernel_rfl, by kernel_rfl⟩
  · rw [h]; exact ⟨1, by kernel_rfl, by kernel_rfl⟩
  · rw [h]; exact ⟨2, by kernel_rfl, by kernel_rfl⟩
  · rw [h]; exact ⟨3, by kernel_rfl, by kernel_rfl⟩
  · rw [h]; exact ⟨4, by kernel_rfl, by kernel_rfl⟩
  · rw [h]; exact ⟨5, by kernel_rfl, by kernel_rfl⟩
  · rw [h]; exact ⟨6, by kernel_rfl, by kernel_rfl⟩
  · rw [h]; exact ⟨7, by kernel_rfl, by kernel_rfl⟩
  · rw [h]; exact ⟨8, by kernel_rfl, by kernel_rfl⟩
  · rw [h]; exact ⟨9, by kernel_rfl, by kernel_rfl⟩
  · rw [h]; exact ⟨10, by kernel_rfl, by kernel_rfl⟩
  · rw [h]; exact ⟨11, by kernel_rfl, by kernel_rfl⟩
  · rw [h]; exact ⟨12, by kernel_rfl, by kernel_rfl⟩
  · rw [h]; exact ⟨13, by kernel_rfl, by kernel_rfl⟩
theorem errGNum : ∀ (i : Nat) x, errTexts[i]? = some x → ∀ g, Tryz.prog.globalNamed x.1 = some g → g = errVar i := by
  intro i x hx g hg
  have hi : i < 14 := (List.getElem?_eq_some_iff.1 hx).1
  have h2 : i = 0 ∨ i = 1 ∨ i = 2 ∨ i = 3 ∨ i = 4 ∨ i = 5 ∨ i = 6 ∨ i = 7 ∨ i = 8 ∨ i = 9 ∨ i = 10 ∨ i = 11 ∨ i = 12 ∨ i = 13 := by omega
  rcases h2 with rfl | rfl | rfl | rfl | rfl | rfl | rfl | rfl | rfl | rfl | rfl | rfl | rfl | rfl
  · obtain rfl := Option.some.inj hx
    exact Option.some.inj (hg.symm.trans (show Tryz.prog.globalNamed "liaison/api.ErrRange" = some 0 by kernel_rfl))
  · obtain rfl := Option.some.inj hx
    exact Option.some.inj (hg.symm.trans (show Tryz.prog.globalNamed "liaison/api.ErrShort" = some 1 by kernel_rfl))
  · obtain rfl := Option.some.inj hx
    exact Option.some.inj (hg.symm.trans (show Tryz.prog.globalNamed "liaison/api.ErrLong" = some 2 by kernel_rfl))
  · obtain rfl := Option.some.inj hx
    exact Option.some.inj (hg.symm.trans (show Tryz.prog.globalNamed "liaison/api.ErrForm" = some 3 by kernel_rfl))
  · obtain rfl := Option.some.inj hx
    exact Option.some.inj (hg.symm.trans (show Tryz.prog.globalNamed "liaison/api.ErrCheck" = some 4 by kernel_rfl))
  · obtain rfl := Option.some.inj hx
    exact Option.some.inj (hg.symm.trans (show Tryz.prog.globalNamed "liaison/api.ErrFull" = some 5 by kernel_rfl))
  · obtain rfl := Option.some.inj hx
    exact Option.some.inj (hg.symm.trans (show Tryz.prog.globalNamed "liaison/api.ErrPower" = some 6 by kernel_rfl))
  · obtain rfl := Option.some.inj hx
    exact Option.some.inj (hg.symm.trans (show Tryz.prog.globalNamed "liaison/api.ErrNone" = some 7 by kernel_rfl))
  · obtain rfl := Option.some.inj hx
    exact Option.some.inj (hg.symm.trans (show Tryz.prog.globalNamed "liaison/api.ErrState" = some 8 by kernel_rfl))
  · obtain rfl := Option.some.inj hx
    exact Option.some.inj (hg.symm.trans (show Tryz.prog.globalNamed "liaison/api.ErrTwice" = some 9 by kernel_rfl))
  · obtain rfl := Option.some.inj hx
    exact Option.some.inj (hg.symm.trans (show Tryz.prog.globalNamed "liaison/api.ErrDepth" = some 10 by kernel_rfl))
  · obtain rfl := Option.some.inj hx
    exact Option.some.inj (hg.symm.trans (show Tryz.prog.globalNamed "liaison/api.ErrExpired" = some 11 by kernel_rfl))
  · obtain rfl := Option.some.inj hx
    exact Option.some.inj (hg.symm.trans (show Tryz.prog.globalNamed "liaison/api.ErrPanic" = some 12 by kernel_rfl))
  · obtain rfl := Option.some.inj hx
    exact Option.some.inj (hg.symm.trans (show Tryz.prog.globalNamed "liaison/api.ErrProtocol" = some 13 by kernel_rfl))

theorem errs_of_laid {W : World} {laid : List (String × DataW Unit)} (hf : laid.filter (fun x => errNames.contains x.1) = errLaid) (h : laidMetH Tryz.prog laid W) : ∃ E, Errs W E := by
  have h1 := laidMetH.filter (fun x => errNames.contains x.1) h
  rw [hf] at h1
  rw [MakeChecks.laidMetH_plain _ _ _ (by rfl)] at h1
  rw [errLaid_eq] at h1
  obtain ⟨ps, hv, hnd, hrows⟩ := h1
  obtain ⟨aa, hlen, hnd2, hin, hcell⟩ := sentinels_list Tryz.underlying37 errRow Tryz.underlying244 Tryz.underlying266 rfl rfl Tryz.underlying9 (by kernel_rfl) (by kernel_rfl) errTexts ps errGlobals hv hnd hrows
  have hl14 : aa.length = 14 := hlen
  refine ⟨fun i => aa.getD i ⟨0, 0, none⟩, ⟨fun i hi => ?_, fun i j hi hj hne he => ?_, fun i hi => ?_⟩⟩
  · have hx : i < errTexts.length := hi
    have ha : i < aa.length := by omega
    obtain ⟨g, hg, hc⟩ := hcell i errTexts[i] aa[i] (by simp [hx]) (by simp [ha])
    have := errGNum i errTexts[i] (by simp [hx]) g hg
    subst this
    rw [hc]
    simp [errAt, List.getD, ha]
  · have hi' : i < aa.length := by omega
    have hj' : j < aa.length := by omega
    simp only [List.getD, List.getElem?_eq_getElem hi', List.getElem?_eq_getElem hj', Option.getD_some] at he
    exact hne ((List.getElem_inj hnd2).1 he)
  · have hi' : i < aa.length := by omega
    simp only [List.getD, List.getElem?_eq_getElem hi', Option.getD_some]
    obtain ⟨hm, _⟩ := hin aa[i] (List.getElem_mem hi')
    exact (hrows _ _ hm).1
end Go.Proofs.YtkghpmpmcafhkaaGreatDoor

namespace Go.Proofs.YtkghpmpmcafhkaaGreatDoor
open Go.ChangeShapes Go.WideShapes Go.ChangeAt Go.RowKit

theorem lib_pow {W : World} {laid : List (String × DataW Unit)} (hf : laid.filter (fun x => x.1 == "internal/strconv.uint64pow10") = [("internal/strconv.uint64pow10", Rows.laid_internal_strconv_uint64pow10)]) (h : laidMetH Tryz.prog laid W) : Lib.TabIs Tryz.prog W "internal/strconv.uint64pow10" .u64 Lib.pow10Tab := by
  have h1 := laidMetH.filter (fun x => x.1 == "internal/strconv.uint64pow10") h
  rw [hf] at h1
  rw [MakeChecks.laidMetH_plain _ _ _ (by rfl)] at h1
  exact Lib.tabIs_of_head (g := 17) (rest := []) (zs := Lib.pow10Tab) (by kernel_rfl) (by kernel_rfl) Tryz.underlying233 Tryz.underlying216 (by kernel_rfl) (by kernel_rfl) h1
set_option maxRecDepth 100000 in
set_option maxHeartbeats 2000000 in
theorem lib_utf {W : World} {laid : List (String × DataW Unit)} (hf1 : laid.filter (fun x => x.1 == "unicode/utf8.first") = [("unicode/utf8.first", Rows.laid_unicode_utf8_first)]) (hf2 : laid.filter (fun x => x.1 == "unicode/utf8.acceptRanges") = [("unicode/utf8.acceptRanges", Rows.laid_unicode_utf8_acceptRanges)]) (h : laidMetH Tryz.prog laid W) : Lib.Utf8Tabs 14 15 W := by
  have h1 := laidMetH.filter (fun x => x.1 == "unicode/utf8.first") h
  rw [hf1] at h1
  rw [MakeChecks.laidMetH_plain _ _ _ (by rfl)] at h1
  have h2 := laidMetH.filter (fun x => x.1 == "unicode/utf8.acceptRanges") h
  rw [hf2] at h2
  rw [MakeChecks.laidMetH_plain _ _ _ (by rfl)] at h2
  exact utf8Tabs_of_readsT (U8Types.of196 Tryz.laysV196) ⟨by kernel_rfl, by kernel_rfl, by kernel_rfl, by kernel_rfl, by kernel_rfl, by kernel_rfl, by kernel_rfl⟩ (Lib.laidMet.reads h1 (.head _)) (Lib.laidMet.reads h2 (.head _))
theorem lib_of_laid {W : World} {laid : List (String × DataW Unit)} (hf0 : laid.filter (fun x => x.1 == "internal/strconv.uint64pow10") = [("internal/strconv.uint64pow10", Rows.laid_internal_strconv_uint64pow10)]) (hf1 : laid.filter (fun x => x.1 == "unicode/utf8.first") = [("unicode/utf8.first", Rows.laid_unicode_utf8_first)]) (hf2 : laid.filter (fun x => x.1 == "unicode/utf8.acceptRanges") = [("unicode/utf8.acceptRanges", Rows.laid_unicode_utf8_acceptRanges)]) (h : laidMetH Tryz.prog laid W) (hsh : W.ShapedOpen Tryz.prog) : LibG W :=
  ⟨Tryz.laysM145.s1_3 W hsh, lib_utf hf1 hf2 h, lib_pow hf0 h⟩
end Go.Proofs.YtkghpmpmcafhkaaGreatDoor
