/- Close -/
import Derived.Test.YthboiahdheehkaaGreatDoorBA
import Derived.ChangeSame
import Derived.OpenShut
import Derived.Deep.DeepHandedRow
import Derived.Lib.LaidTab
import Derived.Test.YthboiahdheehkaaGreatDoorProg
import Derived.Lib.SmallJoins
import Derived.Test.YthboiahdheehkaaGreatDoorPD
import Derived.Deep.SlicePairs
import Derived.Test.YthboiahdheehkaaGreatDoorPQ
import Derived.Test.YthboiahdheehkaaGreatDoorRows
import Derived.Stop.LaidErr
import Derived.LaidSub
import Derived.MakeChecks
import Derived.Test.YthboiahdheehkaaGreatDoorPC
import Derived.Lib.LaidU8T
import Derived.ShapedOpen
open Go.Proofs.Tryz renaming prog → pG
open Go.Value renaming string → S
namespace Go.Proofs.YthboiahdheehkaaGreatDoor
section
set_option maxHeartbeats 2000000
set_option maxRecDepth 100000
open Go.RowKit Go.ChangeShapes Go.WideShapes Go.ChangeAt
section
variable {H : Type} {enc : TypeId × Value → H} {P : Program}
theorem trodAll_stays (hl : laidOutB P = true) {W W' : World} {sp : Nat → Bool} : ∀ (ts : List TypeId) (vs : List Value) (ds : List (DataW H)) (ps : List MemPlace),
  DataW.TrodAll enc P W 0 (fun _ => true) true ts vs ds ps → (∀ t ∈ ts, P.readableRec t = true ∧ t < P.types.size) → (∀ p ∈ ps, W.sameAt W' p) → (∀ p ∈ ps, sp p.block = true) →
  DataW.TrodAll enc P W' 0 sp true ts vs ds ps
 | [], [], [], ps, h, _, _, _ => h
 | t :: ts, v :: vs, d :: ds, ps, h, ht, hsame, hs => by
  obtain ⟨p, q, h1, h2, rfl⟩ := h
  have a := ht t (by simp)
  refine ⟨p, q, WideElems.Trod_stays hl a.1 a.2 h1 (fun x hx => hsame x (by simp [hx])) (fun x hx => hs x (by simp [hx])), ?_, rfl⟩
  exact trodAll_stays hl ts vs ds q h2 (fun t ht' => ht t (by simp [ht'])) (fun x hx => hsame x (by simp [hx])) (fun x hx => hs x (by simp [hx]))
 | [], _ :: _, _, _, h, _, _, _ => h.elim
 | [], [], _ :: _, _, h, _, _, _ => h.elim
 | _ :: _, [], _, _, h, _, _, _ => h.elim
 | _ :: _, _ :: _, [], _, h, _, _, _ => h.elim
theorem law_post {f : Func} {s : ChangeSpec} {apart fresh handsOn again : Bool} {W W' : World} {args : Array Value} {ds gs : List (DataW H)} {before : List MemPlace} {T : TypeId}
  (hl : laidOutB P = true) (ht : ∀ t ∈ f.params.toList, P.readableRec t = true ∧ t < P.types.size) (hT : f.resultTypes = #[T]) (hTb : P.underlying T = some .bool)
  (hW : DataW.Whole enc P f.params.toList s.vars apart W args.toList ds gs before) (hb : Below W.heap.size W W') (hvs : s.vars = [])
  (hres : (s.fn H ds).results = [.lit (.bool true)]) (hargs : (s.fn H ds).args = ds) (hvars : (s.fn H ds).vars = []) :
  s.post enc P f apart fresh handsOn again W args (.bool true) W' := by
 have hlt : ∀ p ∈ before, p.block < W.heap.size := fun p hp => hW.lt p hp
 have hw := hW
 obtain ⟨p, q, hA, hV, hpq, hz, hn⟩ := hW
 rw [hvs] at hV
 obtain ⟨rfl, rfl⟩ := trodVars_none hV
 rw [List.append_nil] at hpq
 subst hpq
 have hV0 : ∀ {w : World} {sp : Nat → Bool}, DataW.TrodVars enc P w sp [] [] [] := rfl
 have hshut : ∀ (b : Nat) (sp : Nat → Bool) (hd : Bool), DataW.TrodAll enc P W' b sp hd [T] [Value.bool true] [.lit (.bool true)] [] :=
  fun _ _ _ => trodAll_mk1 (shut_bool hTb true)
 have hstay : ∀ sp : Nat → Bool, (∀ x ∈ before, sp x.block = true) → DataW.TrodAll enc P W' 0 sp true f.params.toList args.toList ds before :=
  fun sp hs => trodAll_stays hl _ _ _ _ hA ht (fun x hx => hb.same (hlt x hx)) hs
 have hsz : f.resultTypes.size = 1 := by rw [hT]; rfl
 refine ⟨ds, [], before, [], before, [], hw, ?_, ?_, ?_, ?_, fun _ => ⟨?_, ?_⟩⟩
 ·rw [List.append_nil, hres, hsz, hT]; exact hshut _ _ _
 ·rw [List.append_nil, hargs]; exact hstay _ (fun x hx => by simpa using hlt x hx)
 ·rw [List.append_nil, hvs, hvars]
  exact hV0
 ·exact World.keptBut_mono (fun x hx => ⟨hx, .inr (.inl hx)⟩) (hb.frame (· ∈ before))
 ·exact ok_one (by rw [hT]) rfl (okWide_bool_mk hTb true)
 ·refine ⟨[.lit (.bool true)] ++ ds, [], [] ++ before, ⟨[] ++ before, [], ?_, by rw [hvs]; exact hV0, by simp, ?_, ?_⟩, fun x hx _ => by simpa using hx⟩
  ·rw [hsz, hT]
   exact trodAll_append (hstay (fun _ => true) (fun _ _ => rfl)) (hshut _ _ _)
  ·intro b off hp
   have hin : MemPlace.cell b off ∈ before := by simpa using hp
   rw [hb.frozen (hlt _ hin)]
   exact hz b off hin
  ·intro ha; simpa using hn ha
end
end
section
set_option maxHeartbeats 2000000
set_option maxRecDepth 100000
open Go.RowKit Go.ChangeShapes Go.WideShapes Go.ChangeAt
section
variable {H : Type} {enc : TypeId × Value → H}
end
end
section
set_option maxHeartbeats 2000000
set_option maxRecDepth 100000
open Go.RowKit Go.ChangeShapes Go.WideShapes Go.ChangeAt
section
variable {H : Type} {enc : TypeId × Value → H} {P : Program}
theorem spot_none {w : World} {a : Addr} {v : Value} (h : w.cell? a = some v) : a.spot = none := by
 unfold World.cell? at h
 split at h
 ·split at h
  ·cases h
  ·rename_i hs; simpa using hs
 ·cases h
theorem trod_str {w : World} {base : Nat} {sp : Nat → Bool} {held : Bool} {fuel : Nat} {e : TypeId} {v : Value} {x : DataW H × List MemPlace} (he : P.underlying e = some .string) (h : DataW.trod enc P w base sp held fuel e [v] = some x) : ∃ l, v = S (bs l) := by
 obtain ⟨z, hc, _, _⟩ := DataW.trod_string he h
 exact ⟨z.data.toList, by simpa [bs] using hc⟩
end
end
section
set_option maxHeartbeats 2000000
set_option maxRecDepth 100000
open Go.RowKit Go.ChangeShapes Go.WideShapes Go.ChangeAt
theorem flat_at6 {n : Nat} : ∀ (ls : List (List Value)) (_ : ∀ l ∈ ls, l.length = n) (i : Nat) (u : Value), ls.flatten[i]? = some u → ∃ k j l, ls[k]? = some l ∧ l[j]? = some u ∧ i = k * n + j
 | [], _, i, u, h => by simp at h
 | l :: ls, hn, i, u, h => by
  have hl : l.length = n := hn l (by simp)
  rw [List.flatten_cons] at h
  by_cases hi : i < l.length
  ·rw [List.getElem?_append_left hi] at h
   exact ⟨0, i, l, rfl, h, by omega⟩
  ·rw [List.getElem?_append_right (by omega)] at h
   obtain ⟨k, j, l', h1, h2, h3⟩ := flat_at6 ls (fun x hx => hn x (by simp [hx])) (i - l.length) u h
   exact ⟨k + 1, j, l', by simpa using h1, h2, by rw [Nat.add_mul, Nat.one_mul]; omega⟩
section
variable {H : Type} {enc : TypeId × Value → H} {P : Program}
theorem open_pieces {t e : TypeId} {f0 f1 f2 f3 g0 g1 : Field} {w : World} {base : Nat} {sp : Nat → Bool} {held : Bool} {fuel : Nat} {cs : List Value} {x : DataW H × List MemPlace}
  (ht : P.underlying t = some (.slice e)) (he : P.underlying e = some (.struct #[f0, f1, f2, f3])) (ce : P.cellsOf e = 6) (o0 : f0.offset = 0) (o1 : f1.offset = 2) (o2 : f2.offset = 4) (o3 : f3.offset = 5)
  (c0 : P.cellsOf f0.type = 2) (c1 : P.cellsOf f1.type = 2) (c2 : P.cellsOf f2.type = 1) (c3 : P.cellsOf f3.type = 1) (u0 : P.underlying f0.type = some (.struct #[g0, g1])) (u1 : P.underlying f1.type = some (.struct #[g0, g1]))
  (q0 : g0.offset = 0) (q1 : g1.offset = 1) (d0 : P.cellsOf g0.type = 1) (d1 : P.cellsOf g1.type = 1) (s0 : P.underlying g0.type = some .string) (s1 : P.underlying g1.type = some .string) (s2 : P.underlying f2.type = some .string) (s3 : P.underlying f3.type = some .string)
  (h : DataW.trod enc P w base sp held fuel t cs = some x) :
  ∃ (p : Option Addr) (cap : Nat) (qs : List (List (List UInt8))), cs = [.slice p qs.length cap] ∧ qs.length ≤ cap ∧ cap ≤ maxLen ∧ Rd w p (acells qs) ∧ ∀ q ∈ qs, q.length = 5 + 1 := by
 rcases Deep.open_slice ht h with ⟨h0, _⟩ | ⟨a, len, cap, m, n, D, Pl, rfl, _, hl, hm, hmm, _, hx⟩
 ·exact ⟨none, 0, [], h0, by simp, by unfold maxLen; omega, .inl rfl, by simp⟩
 have hlm : len ≤ m := by rw [hmm]; split <;> omega
 have each : ∀ i, i < m → ∃ x0 x1 x2 x3 x4 x5 : List UInt8, w.cell? (a.add (i * 6)) = some (S (bs x0)) ∧ w.cell? (a.add (i * 6 + 1)) = some (S (bs x1)) ∧ w.cell? (a.add (i * 6 + 2)) = some (S (bs x2)) ∧ w.cell? (a.add (i * 6 + 3)) = some (S (bs x3)) ∧ w.cell? (a.add (i * 6 + 4)) = some (S (bs x4)) ∧ w.cell? (a.add (i * 6 + 5)) = some (S (bs x5)) := by
  intro i hi
  obtain ⟨cs', h1, h2⟩ := hx i hi
  rw [ce] at h1
  obtain ⟨_, hlen, hcell⟩ := World.cells?_some h1
  obtain ⟨xs, k, _, _, _, hxl, hf⟩ := DataW.trod_struct he h2
  match xs, hxl, cs', hlen with
  | [y0, y1, y2, y3], _, [v0, v1, v2, v3, v4, v5], _ =>
   have k0 := hf 0 f0 rfl
   have k1 := hf 1 f1 rfl
   have k2 := hf 2 f2 rfl
   have k3 := hf 3 f3 rfl
   simp [o0, o1, o2, o3, c0, c1, c2, c3] at k0 k1 k2 k3
   obtain ⟨ws, k', _, _, _, hwl, hg⟩ := DataW.trod_struct u0 k0
   obtain ⟨zs, k'', _, _, _, hzl, hh⟩ := DataW.trod_struct u1 k1
   match ws, hwl, zs, hzl with
   | [w0, w1], _, [z0, z1], _ =>
    have l0 := hg 0 g0 rfl
    have l1 := hg 1 g1 rfl
    have l2 := hh 0 g0 rfl
    have l3 := hh 1 g1 rfl
    simp [q0, q1, d0, d1] at l0 l1 l2 l3
    obtain ⟨a0, rfl⟩ := trod_str s0 l0
    obtain ⟨a1, rfl⟩ := trod_str s1 l1
    obtain ⟨a2, rfl⟩ := trod_str s0 l2
    obtain ⟨a3, rfl⟩ := trod_str s1 l3
    obtain ⟨a4, rfl⟩ := trod_str s2 k2
    obtain ⟨a5, rfl⟩ := trod_str s3 k3
    have e0 := hcell 0 (by omega)
    have e1 := hcell 1 (by omega)
    have e2 := hcell 2 (by omega)
    have e3 := hcell 3 (by omega)
    have e4 := hcell 4 (by omega)
    have e5 := hcell 5 (by omega)
    rw [Deep.add_add] at e0 e1 e2 e3 e4 e5
    exact ⟨a0, a1, a2, a3, a4, a5, by simpa using e0, by simpa using e1, by simpa using e2, by simpa using e3, by simpa using e4, by simpa using e5⟩
 by_cases hz : len = 0
 ·subst hz
  exact ⟨some a, cap, [], rfl, Nat.zero_le _, hm, .inl rfl, by simp⟩
 have hsp : a.spot = none := by
  obtain ⟨_, _, _, _, _, _, g, _⟩ := each 0 (by omega)
  exact spot_none (a := a) (by simpa [Addr.add] using g)
 obtain ⟨b, off, s⟩ := a
 simp only at hsp
 subst hsp
 have hall : ∀ i, ∃ q : List (List UInt8), q.length = 5 + 1 ∧ (i < len → ∀ j u, (strs q)[j]? = some u → w.cell? ⟨b, off + (i * 6 + j), none⟩ = some u) := by
  intro i
  by_cases hi : i < len
  ·obtain ⟨x0, x1, x2, x3, x4, x5, g0, g1, g2, g3, g4, g5⟩ := each i (by omega)
   rw [cell_add] at g0 g1 g2 g3 g4 g5
   refine ⟨[x0, x1, x2, x3, x4, x5], rfl, fun _ j u hj => ?_⟩
   match j, hj with
   | 0, hj => cases hj; exact g0
   | 1, hj => cases hj; exact g1
   | 2, hj => cases hj; exact g2
   | 3, hj => cases hj; exact g3
   | 4, hj => cases hj; exact g4
   | 5, hj => cases hj; exact g5
   | j + 6, hj => simp [strs] at hj
  ·exact ⟨[[], [], [], [], [], []], rfl, fun h => absurd h hi⟩
 obtain ⟨G, hG⟩ := Classical.axiomOfChoice hall
 refine ⟨some ⟨b, off, none⟩, cap, (List.range len).map G, by simp, by simpa using hl, hm, .inr ⟨b, off, rfl, ?_⟩, ?_⟩
 ·intro i u hu
  unfold acells at hu
  rw [List.flatMap_def] at hu
  obtain ⟨k, j, l, h1, h2, rfl⟩ := flat_at6 (n := 6) _ (by
   intro l hl
   obtain ⟨q, hq, rfl⟩ := List.mem_map.1 hl
   obtain ⟨j, _, rfl⟩ := List.mem_map.1 hq
   rw [strs_len]
   exact (hG j).1) i u hu
  rw [List.getElem?_map, List.getElem?_map] at h1
  simp only [Option.map_eq_some_iff] at h1
  obtain ⟨q, ⟨k', hk, rfl⟩, rfl⟩ := h1
  obtain ⟨hi, rfl⟩ := List.getElem?_eq_some_iff.1 hk
  simp only [List.length_range] at hi
  simp only [List.getElem_range] at h2
  exact (hG k).2 hi j u h2
 ·intro q hq
  obtain ⟨j, _, rfl⟩ := List.mem_map.1 hq
  exact (hG j).1
theorem array6 {α : Type} {cs : Array α} (h : cs.size = 6) : ∃ c0 c1 c2 c3 c4 c5, cs = #[c0, c1, c2, c3, c4, c5] := by
 obtain ⟨l⟩ := cs
 match l, h with
 | [c0, c1, c2, c3, c4, c5], _ => exact ⟨c0, c1, c2, c3, c4, c5, rfl⟩
theorem open_parts {w : World} {spare : Nat → Bool} {base : Nat} {held : Bool} {r : Reach} {b0 : Nat} {v : Value} {d : DataW H} {ps : List MemPlace}
  (hval : Value.okWide pG w r b0 38 v) (hd : DataW.Trod enc pG w base spare held 38 v d ps) :
  ∃ (t0 t1 t2 t3 t4 : List UInt8) (qs : List (List (List UInt8))) (pv : Value), v = .agg #[S (bs t0), S (bs t1), S (bs t2), S (bs t3), S (bs t4), pv] ∧ PqL w pv qs := by
 obtain ⟨cs, rfl, hsz⟩ := okWide_struct Tryz.underlying38 hval
 obtain ⟨c0, c1, c2, c3, c4, c5, rfl⟩ := array6 (hsz.trans (by kernel_rfl))
 obtain ⟨fuel, hf⟩ := hd
 obtain ⟨xs, n, _, _, _, hxl, hg⟩ := DataW.trod_struct Tryz.underlying38 hf
 match xs, hxl with
 | [y0, y1], _ =>
  have k0 := hg 0 _ rfl
  have k1 := hg 1 _ rfl
  have m5 : pG.cellsOf 35 = 5 := by kernel_rfl
  have m1 : pG.cellsOf 36 = 1 := by kernel_rfl
  have ms : pG.cellsOf 9 = 1 := by kernel_rfl
  simp [Value.cells, m5, m1] at k0 k1
  obtain ⟨zs, m, _, _, _, hzl, hz⟩ := DataW.trod_array Tryz.underlying35 k0
  have h0 := hz 0 (by omega)
  have h1 := hz 1 (by omega)
  have h2 := hz 2 (by omega)
  have h3 := hz 3 (by omega)
  have h4 := hz 4 (by omega)
  simp [ms] at h0 h1 h2 h3 h4
  obtain ⟨t0, rfl⟩ := trod_str Tryz.underlying9 (h0.trans (List.getElem?_eq_getElem (by omega)))
  obtain ⟨t1, rfl⟩ := trod_str Tryz.underlying9 (h1.trans (List.getElem?_eq_getElem (by omega)))
  obtain ⟨t2, rfl⟩ := trod_str Tryz.underlying9 (h2.trans (List.getElem?_eq_getElem (by omega)))
  obtain ⟨t3, rfl⟩ := trod_str Tryz.underlying9 (h3.trans (List.getElem?_eq_getElem (by omega)))
  obtain ⟨t4, rfl⟩ := trod_str Tryz.underlying9 (h4.trans (List.getElem?_eq_getElem (by omega)))
  obtain ⟨p, cap, qs, he, a1, a2, a3, a4⟩ := open_pieces Tryz.underlying36 Tryz.underlying85 (by kernel_rfl) rfl rfl rfl rfl (by kernel_rfl) (by kernel_rfl) (by kernel_rfl) (by kernel_rfl) Tryz.underlying41 Tryz.underlying41 rfl rfl (by kernel_rfl) (by kernel_rfl) Tryz.underlying9 Tryz.underlying9 Tryz.underlying9 Tryz.underlying9 k1
  cases he
  exact ⟨t0, t1, t2, t3, t4, qs, _, rfl, p, cap, rfl, a1, a2, a3, a4⟩
end
end
section
set_option maxHeartbeats 2000000
set_option maxRecDepth 100000
open Go.ChangeShapes Go.WideShapes Go.ChangeAt Go.RowKit
section
variable {P : Program} {nm : String} {W : World} {ti tp te ts : TypeId} {ms : Array (String × TypeId)} {f : Field}
def sentinel (nm : String) (text : List UInt8) : DataW Unit := .iface nm (.ptr (.agg [.lit (.string text)]))
theorem sentinels_list (hi : P.underlying ti = some (.interface ms)) (hrow : ∀ u, P.typeName? 3 u = some nm → u = tp)
  (hp : P.underlying tp = some (.pointer te)) (he : P.underlying te = some (.struct #[f])) (hft : f.type = ts) (hfo : f.offset = 0) (hs : P.underlying ts = some .string) (hc : P.cellsOf te = 1) (hcs : P.cellsOf ts = 1) :
  ∀ (L : List (String × List UInt8)) (ps : List MemPlace), (∀ x ∈ L, ∃ g, P.globalNamed x.1 = some g ∧ (P.globals[g]?).map (·.type) = some ti) →
   DataW.LaidVars P W (L.map fun x => (x.1, sentinel nm x.2)) ps → ps.Nodup → (∀ b off, MemPlace.cell b off ∈ ps → (∃ c t, W.heap[b]? = some (.cells c t (0, 0))) ∧ ∀ u v, W.cell? ⟨b, off, none⟩ = some (.iface u v) → Value.okWide P W .any 0 u v) →
   ∃ aa : List Addr, aa.length = L.length ∧ aa.Nodup ∧ (∀ a ∈ aa, MemPlace.cell a.block a.off ∈ ps ∧ a.spot = none) ∧
    ∀ (i : Nat) x a, L[i]? = some x → aa[i]? = some a → ∃ g, P.globalNamed x.1 = some g ∧ W.cell? ⟨g, 0, none⟩ = some (.iface tp (.pointer (some a)))
 | [], ps, _, _, _, _ => ⟨[], rfl, List.nodup_nil, by simp, by simp⟩
 | x :: L, ps, hg, h, hnd, hrows => by
  obtain ⟨g', t', cs, fl, p, q, hg', ht', hv, hd, hrest, e⟩ := h
  obtain ⟨g, hgx, htx⟩ := hg x (by simp)
  obtain rfl := Option.some.inj (hgx.symm.trans hg')
  obtain rfl := Option.some.inj (htx.symm.trans ht')
  subst e
  obtain ⟨l0⟩ := cs
  have hnd2 := List.nodup_append.1 hnd
  obtain ⟨aa, h1, h2, h3, h4⟩ := sentinels_list hi hrow hp he hft hfo hs hc hcs L q (fun y hy => hg y (by simp [hy])) hrest hnd2.2.1 (fun b off hm => hrows b off (by simp [hm]))
  have ok0 : ∀ u v, l0 = [.iface u v] → Value.okWide P W .any 0 u v := fun u v e => by
   subst e
   exact (hrows g 0 (by simp [MemPlace.row])).2 u v (by simpa using World.var?_cell hg' hv 0)
  obtain ⟨a0, s0, rfl, hc0, hs0, hz0, rfl⟩ := errorString_of_trod hi hrow hp he hft hfo hs hc hcs hd ok0
  have hspot : a0.spot = none := by
   unfold World.cell? at hc0
   split at hc0
   ·split at hc0
    ·cases hc0
    ·rename_i hs; simpa using hs
   ·cases hc0
  refine ⟨a0 :: aa, by simp [h1], List.nodup_cons.2 ⟨fun hm => ?_, h2⟩, ?_, ?_⟩
  ·have h5 := (h3 a0 hm).1
   exact hnd2.2.2 _ (by simp [MemPlace.row]) _ h5 rfl
  ·intro a ha
   rcases List.mem_cons.1 ha with rfl | ha
   ·exact ⟨by simp [MemPlace.row], hspot⟩
   ·exact ⟨by simp [(h3 a ha).1], (h3 a ha).2⟩
  ·intro i y a hy ha
   cases i with
   | zero =>
    simp only [List.getElem?_cons_zero, Option.some.injEq] at hy ha
    subst hy ha
    exact ⟨g, hg', by simpa using World.var?_cell hg' hv 0⟩
   | succ i => exact h4 i y a (by simpa using hy) (by simpa using ha)
end
def errNames : List String := ["liaison/api.ErrRange", "liaison/api.ErrShort", "liaison/api.ErrLong", "liaison/api.ErrForm", "liaison/api.ErrCheck", "liaison/api.ErrFull", "liaison/api.ErrPower", "liaison/api.ErrNone", "liaison/api.ErrState", "liaison/api.ErrTwice", "liaison/api.ErrDepth", "liaison/api.ErrExpired", "liaison/api.ErrPanic", "liaison/api.ErrProtocol"]
def errLaid : List (String × DataW Unit) := [("liaison/api.ErrRange", Rows.laid_liaison_api_ErrRange), ("liaison/api.ErrShort", Rows.laid_liaison_api_ErrShort), ("liaison/api.ErrLong", Rows.laid_liaison_api_ErrLong), ("liaison/api.ErrForm", Rows.laid_liaison_api_ErrForm), ("liaison/api.ErrCheck", Rows.laid_liaison_api_ErrCheck), ("liaison/api.ErrFull", Rows.laid_liaison_api_ErrFull), ("liaison/api.ErrPower", Rows.laid_liaison_api_ErrPower), ("liaison/api.ErrNone", Rows.laid_liaison_api_ErrNone), ("liaison/api.ErrState", Rows.laid_liaison_api_ErrState), ("liaison/api.ErrTwice", Rows.laid_liaison_api_ErrTwice), ("liaison/api.ErrDepth", Rows.laid_liaison_api_ErrDepth), ("liaison/api.ErrExpired", Rows.laid_liaison_api_ErrExpired), ("liaison/api.ErrPanic", Rows.laid_liaison_api_ErrPanic), ("liaison/api.ErrProtocol", Rows.laid_liaison_api_ErrProtocol)]
def errTexts : List (String × List UInt8) := errLaid.map fun x => (x.1, match x.2 with | .iface _ (.ptr (.agg [.lit (.string s)])) => s | _ => [])
theorem errLaid_eq : errLaid = errTexts.map fun x => (x.1, sentinel "*errors.errorString" x.2) := by rfl
theorem errStar : "*" ++ "errors.errorString" = "*errors.errorString" := by decide
theorem errRow (u : TypeId) (h : pG.typeName? 3 u = some "*errors.errorString") : u = 313 :=
 typeName_ptr_named (nm := "errors.errorString") (by rw [errStar]; kernel_rfl) (by kernel_rfl) (by decide) u (by rw [errStar]; exact h)
theorem errGlobals : ∀ x ∈ errTexts, ∃ g, pG.globalNamed x.1 = some g ∧ (pG.globals[g]?).map (·.type) = some 30 := by
 intro x hx
 have hm : x.1 ∈ errNames := by
  have := List.mem_map_of_mem (f := (·.1)) hx
  exact this
 simp only [errNames, List.mem_cons, List.not_mem_nil, or_false] at hm
 rcases hm with h | h | h | h | h | h | h | h | h | h | h | h | h | h
 ·rw [h]; exact ⟨1, by kernel_rfl, by kernel_rfl⟩
 ·rw [h]; exact ⟨2, by kernel_rfl, by kernel_rfl⟩
 ·rw [h]; exact ⟨3, by kernel_rfl, by kernel_rfl⟩
 ·rw [h]; exact ⟨0, by kernel_rfl, by kernel_rfl⟩
 ·rw [h]; exact ⟨4, by kernel_rfl, by kernel_rfl⟩
 ·rw [h]; exact ⟨5, by kernel_rfl, by kernel_rfl⟩
 ·rw [h]; exact ⟨6, by kernel_rfl, by kernel_rfl⟩
 ·rw [h]; exact ⟨7, by kernel_rfl, by kernel_rfl⟩
 ·rw [h]; exact ⟨8, by kernel_rfl, by kernel_rfl⟩
 ·rw [h]; exact ⟨9, by kernel_rfl, by kernel_rfl⟩
 ·rw [h]; exact ⟨10, by kernel_rfl, by kernel_rfl⟩
 ·rw [h]; exact ⟨11, by kernel_rfl, by kernel_rfl⟩
 ·rw [h]; exact ⟨12, by kernel_rfl, by kernel_rfl⟩
 ·rw [h]; exact ⟨13, by kernel_rfl, by kernel_rfl⟩
theorem errGNum : ∀ (i : Nat) x, errTexts[i]? = some x → ∀ g, pG.globalNamed x.1 = some g → g = errVar i := by
 intro i x hx g hg
 have hi : i < 14 := (List.getElem?_eq_some_iff.1 hx).1
 have h2 : i = 0 ∨ i = 1 ∨ i = 2 ∨ i = 3 ∨ i = 4 ∨ i = 5 ∨ i = 6 ∨ i = 7 ∨ i = 8 ∨ i = 9 ∨ i = 10 ∨ i = 11 ∨ i = 12 ∨ i = 13 := by omega
 rcases h2 with rfl | rfl | rfl | rfl | rfl | rfl | rfl | rfl | rfl | rfl | rfl | rfl | rfl | rfl
 ·obtain rfl := Option.some.inj hx
  exact Option.some.inj (hg.symm.trans (show pG.globalNamed "liaison/api.ErrRange" = some 1 by kernel_rfl))
 ·obtain rfl := Option.some.inj hx
  exact Option.some.inj (hg.symm.trans (show pG.globalNamed "liaison/api.ErrShort" = some 2 by kernel_rfl))
 ·obtain rfl := Option.some.inj hx
  exact Option.some.inj (hg.symm.trans (show pG.globalNamed "liaison/api.ErrLong" = some 3 by kernel_rfl))
 ·obtain rfl := Option.some.inj hx
  exact Option.some.inj (hg.symm.trans (show pG.globalNamed "liaison/api.ErrForm" = some 0 by kernel_rfl))
 ·obtain rfl := Option.some.inj hx
  exact Option.some.inj (hg.symm.trans (show pG.globalNamed "liaison/api.ErrCheck" = some 4 by kernel_rfl))
 ·obtain rfl := Option.some.inj hx
  exact Option.some.inj (hg.symm.trans (show pG.globalNamed "liaison/api.ErrFull" = some 5 by kernel_rfl))
 ·obtain rfl := Option.some.inj hx
  exact Option.some.inj (hg.symm.trans (show pG.globalNamed "liaison/api.ErrPower" = some 6 by kernel_rfl))
 ·obtain rfl := Option.some.inj hx
  exact Option.some.inj (hg.symm.trans (show pG.globalNamed "liaison/api.ErrNone" = some 7 by kernel_rfl))
 ·obtain rfl := Option.some.inj hx
  exact Option.some.inj (hg.symm.trans (show pG.globalNamed "liaison/api.ErrState" = some 8 by kernel_rfl))
 ·obtain rfl := Option.some.inj hx
  exact Option.some.inj (hg.symm.trans (show pG.globalNamed "liaison/api.ErrTwice" = some 9 by kernel_rfl))
 ·obtain rfl := Option.some.inj hx
  exact Option.some.inj (hg.symm.trans (show pG.globalNamed "liaison/api.ErrDepth" = some 10 by kernel_rfl))
 ·obtain rfl := Option.some.inj hx
  exact Option.some.inj (hg.symm.trans (show pG.globalNamed "liaison/api.ErrExpired" = some 11 by kernel_rfl))
 ·obtain rfl := Option.some.inj hx
  exact Option.some.inj (hg.symm.trans (show pG.globalNamed "liaison/api.ErrPanic" = some 12 by kernel_rfl))
 ·obtain rfl := Option.some.inj hx
  exact Option.some.inj (hg.symm.trans (show pG.globalNamed "liaison/api.ErrProtocol" = some 13 by kernel_rfl))
theorem errs_of_laid {W : World} {laid : List (String × DataW Unit)} (hf : laid.filter (fun x => errNames.contains x.1) = errLaid) (h : laidMetH pG laid W) : ∃ E, Errs W E := by
 have h1 := laidMetH.filter (fun x => errNames.contains x.1) h
 rw [hf] at h1
 rw [MakeChecks.laidMetH_plain _ _ _ (by rfl)] at h1
 rw [errLaid_eq] at h1
 obtain ⟨ps, hv, hnd, hrows⟩ := h1
 obtain ⟨aa, hlen, hnd2, hin, hcell⟩ := sentinels_list Tryz.underlying30 errRow Tryz.underlying313 Tryz.underlying335 rfl rfl Tryz.underlying9 (by kernel_rfl) (by kernel_rfl) errTexts ps errGlobals hv hnd hrows
 have hl14 : aa.length = 14 := hlen
 refine ⟨fun i => aa.getD i ⟨0, 0, none⟩, ⟨fun i hi => ?_, fun i j hi hj hne he => ?_, fun i hi => ?_⟩⟩
 ·have hx : i < errTexts.length := hi
  have ha : i < aa.length := by omega
  obtain ⟨g, hg, hc⟩ := hcell i errTexts[i] aa[i] (by simp [hx]) (by simp [ha])
  have := errGNum i errTexts[i] (by simp [hx]) g hg
  subst this
  rw [hc]
  simp [errAt, List.getD, ha]
 ·have hi' : i < aa.length := by omega
  have hj' : j < aa.length := by omega
  simp only [List.getD, List.getElem?_eq_getElem hi', List.getElem?_eq_getElem hj', Option.getD_some] at he
  exact hne ((List.getElem_inj hnd2).1 he)
 ·have hi' : i < aa.length := by omega
  simp only [List.getD, List.getElem?_eq_getElem hi', Option.getD_some]
  obtain ⟨hm, _⟩ := hin aa[i] (List.getElem_mem hi')
  exact (hrows _ _ hm).1
end
section
set_option maxHeartbeats 2000000
set_option maxRecDepth 100000
open Go.ChangeShapes Go.WideShapes Go.ChangeAt Go.RowKit
theorem lib_pow {W : World} {laid : List (String × DataW Unit)} (hf : laid.filter (fun x => x.1 == "internal/strconv.uint64pow10") = [("internal/strconv.uint64pow10", Rows.laid_internal_strconv_uint64pow10)]) (h : laidMetH pG laid W) : Lib.TabIs pG W "internal/strconv.uint64pow10" .u64 Lib.pow10Tab := by
 have h1 := laidMetH.filter (fun x => x.1 == "internal/strconv.uint64pow10") h
 rw [hf] at h1
 rw [MakeChecks.laidMetH_plain _ _ _ (by rfl)] at h1
 exact Lib.tabIs_of_head (g := 21) (rest := []) (zs := Lib.pow10Tab) (by kernel_rfl) (by kernel_rfl) Tryz.underlying307 Tryz.underlying288 (by kernel_rfl) (by kernel_rfl) h1
theorem lib_utf {W : World} {laid : List (String × DataW Unit)} (hf1 : laid.filter (fun x => x.1 == "unicode/utf8.first") = [("unicode/utf8.first", Rows.laid_unicode_utf8_first)]) (hf2 : laid.filter (fun x => x.1 == "unicode/utf8.acceptRanges") = [("unicode/utf8.acceptRanges", Rows.laid_unicode_utf8_acceptRanges)]) (h : laidMetH pG laid W) : Lib.Utf8Tabs 18 19 W := by
 have h1 := laidMetH.filter (fun x => x.1 == "unicode/utf8.first") h
 rw [hf1] at h1
 rw [MakeChecks.laidMetH_plain _ _ _ (by rfl)] at h1
 have h2 := laidMetH.filter (fun x => x.1 == "unicode/utf8.acceptRanges") h
 rw [hf2] at h2
 rw [MakeChecks.laidMetH_plain _ _ _ (by rfl)] at h2
 exact utf8Tabs_of_readsT (U8Types.of196 Tryz.laysV196) ⟨by kernel_rfl, by kernel_rfl, by kernel_rfl, by kernel_rfl, by kernel_rfl, by kernel_rfl, by kernel_rfl⟩ (Lib.laidMet.reads h1 (.head _)) (Lib.laidMet.reads h2 (.head _))
theorem lib_of_laid {W : World} {laid : List (String × DataW Unit)} (hf0 : laid.filter (fun x => x.1 == "internal/strconv.uint64pow10") = [("internal/strconv.uint64pow10", Rows.laid_internal_strconv_uint64pow10)]) (hf1 : laid.filter (fun x => x.1 == "unicode/utf8.first") = [("unicode/utf8.first", Rows.laid_unicode_utf8_first)]) (hf2 : laid.filter (fun x => x.1 == "unicode/utf8.acceptRanges") = [("unicode/utf8.acceptRanges", Rows.laid_unicode_utf8_acceptRanges)]) (h : laidMetH pG laid W) (hsh : W.ShapedOpen pG) : LibG W :=
 ⟨Tryz.laysM145.s1_3 W hsh, lib_utf hf1 hf2 h, lib_pow hf0 h⟩
end
end Go.Proofs.YthboiahdheehkaaGreatDoor
