/- Alive25 -/
import Derived.Test.YthboiahdheehkaaGreatDoorSJ
open Go.Lib renaming hid → hI
open Go.Value renaming string → S
open Go.Value renaming slice → C
namespace Go.Proofs.YthboiahdheehkaaGreatDoor
set_option maxHeartbeats 4000000
set_option maxRecDepth 20000
open Go.RowKit Go.Extern.Stop Go.Stop Go.Extern
attribute [local go_sem] bs_toList bs_size
attribute [local irreducible] wpPhi
theorem alive25_any (E : Nat → Addr) (w : World) (hg : LibG w) (hE : Errs w E) : Calls Tryz.prog 10 #[] w (Gives w (.bool true)) := by
 obtain ⟨x, hx⟩ := aliveE_formed
 have hbd := fun w => body_any w
 unfold bodyV at hbd
 have HC := hI (fun w' => (show EnvC w' aliveE #[S ⟨#[97]⟩, S ⟨#[116]⟩, S ⟨#[109]⟩, S ⟨#[]⟩, S ⟨#[]⟩, C none 0 0, S ⟨#[117]⟩, S ⟨#[98]⟩, C none 0 0, C none 0 0, S ⟨#[]⟩] from rep_envC w' [97] [116] [109] [] []))
 have HW := hI (fun w' (hb : Below w.heap.size w w') => rep_write E aliveE x #[S ⟨#[97]⟩, S ⟨#[116]⟩, S ⟨#[109]⟩, S ⟨#[]⟩, S ⟨#[]⟩, C none 0 0, S ⟨#[117]⟩, S ⟨#[98]⟩, C none 0 0, C none 0 0, S ⟨#[]⟩] w' aliveE_rep hx (hg.below hb) (hE.below hb) (HC.out w'))
 have HR0 := fun w' (hb : Below w.heap.size w w') => rep_read E aliveE x w' aliveE_rep hx (hg.below hb) (hE.below hb)
 have HSM := hI (fun w' cs (h : EnvC w' aliveE cs) => sosame_any aliveE aliveE cs #[S ⟨#[97]⟩, S ⟨#[116]⟩, S ⟨#[109]⟩, S ⟨#[]⟩, S ⟨#[]⟩, C none 0 0, S ⟨#[117]⟩, S ⟨#[98]⟩, C none 0 0, C none 0 0, S ⟨#[]⟩] w' h (HC.out w') ⟨trivial, aliveE_rep.small.bok⟩ ⟨trivial, aliveE_rep.small.bok⟩)
 generalize x.wrt = tx at *
 have HR := hI (fun w' hb => (show Calls Tryz.prog 21 #[S (bs tx)] w' fun en w2 => ∃ (b0 b1 bt : List UInt8) (pa : Option Addr) (na ca : Nat) (pk : Option Addr) (nk ck : Nat) (ph : Option Addr) (ch : Nat), en = .returned (.tuple #[.agg #[S ⟨#[97]⟩, S ⟨#[116]⟩, S ⟨#[109]⟩, S ⟨#[]⟩, S ⟨#[]⟩, C ph 0 ch, S (bs b0), S (bs b1), C pa na ca, C pk nk ck, S (bs bt)], .nilIface]) ∧ EnvC w2 aliveE #[S ⟨#[97]⟩, S ⟨#[116]⟩, S ⟨#[109]⟩, S ⟨#[]⟩, S ⟨#[]⟩, C ph 0 ch, S (bs b0), S (bs b1), C pa na ca, C pk nk ck, S (bs bt)] ∧ TrX w2 (fun b => b < w2.heap.size) bodyT [S (bs b0), S (bs b1), C pa na ca, C pk nk ck, S (bs bt)] ∧ Below w'.heap.size w' w2 from HR0 w' hb))
 have HBD := hI hbd
 clear hg hE hbd HR0 hx HC
 go_enter Tryz.func10, Tryz.ntmps10
 go_wp2_with fail
 refine (HBD.out _).mono ?_
 rintro e w1 ⟨rfl, hb1⟩
 have n1 := Blk.new w1 46 #[S ⟨#[97]⟩, S ⟨#[116]⟩, S ⟨#[109]⟩, S ⟨#[]⟩, S ⟨#[]⟩, C none 0 0, S ⟨#[117]⟩, S ⟨#[98]⟩, C none 0 0, C none 0 0, S ⟨#[]⟩]
 obtain ⟨wa, hwa⟩ : ∃ wa, w1.alloc (.cells #[S ⟨#[97]⟩, S ⟨#[116]⟩, S ⟨#[109]⟩, S ⟨#[]⟩, S ⟨#[]⟩, C none 0 0, S ⟨#[117]⟩, S ⟨#[98]⟩, C none 0 0, C none 0 0, S ⟨#[]⟩] 46) = wa := ⟨_, rfl⟩
 have hba := below_alloc1 w1 (.cells #[S ⟨#[97]⟩, S ⟨#[116]⟩, S ⟨#[109]⟩, S ⟨#[]⟩, S ⟨#[]⟩, C none 0 0, S ⟨#[117]⟩, S ⟨#[98]⟩, C none 0 0, C none 0 0, S ⟨#[]⟩] 46)
 obtain ⟨z0, z1, z2, z3, z4, z5, z6, z7, z8, z9, z10⟩ := n1.cc
 have HN := hI (show Blk wa w1.heap.size 46 #[S ⟨#[97]⟩, S ⟨#[116]⟩, S ⟨#[109]⟩, S ⟨#[]⟩, S ⟨#[]⟩, C none 0 0, S ⟨#[117]⟩, S ⟨#[98]⟩, C none 0 0, C none 0 0, S ⟨#[]⟩] by rw [← hwa]; exact n1)
 have HBA := hI (hb1.trans ((hwa ▸ hba : Below w1.heap.size w1 wa).mono hb1.size))
 have HWA := hI hwa
 clear hb1 n1 hba hwa
 go_wp2_with fail
 rw [HWA.out]
 refine (HW.out _ HBA.out).mono ?_
 rintro e w2 ⟨rfl, hb2⟩
 have HB2 := hI (HBA.out.trans (hb2.mono HBA.out.size))
 have HN2 := hI (HN.out.below hb2 HN.out.lt)
 clear hb2 z0 z1 z2 z3 z4 z5 z6 z7 z8 z9 z10
 go_wp2_with fail
 refine (HR.out _ HB2.out).mono ?_
 rintro e w3 ⟨b0, b1, bt, pa, na, ca, pk, nk, ck, ph, ch, rfl, hc3, _, hb3⟩
 have hn3 := (HN2.out.below hb3 HN2.out.lt).below (below_alloc1 w3 (.cells #[S ⟨#[97]⟩, S ⟨#[116]⟩, S ⟨#[109]⟩, S ⟨#[]⟩, S ⟨#[]⟩, C ph 0 ch, S (bs b0), S (bs b1), C pa na ca, C pk nk ck, S (bs bt)] 46)) (HN2.out.below hb3 HN2.out.lt).lt
 have n3 := Blk.new w3 46 #[S ⟨#[97]⟩, S ⟨#[116]⟩, S ⟨#[109]⟩, S ⟨#[]⟩, S ⟨#[]⟩, C ph 0 ch, S (bs b0), S (bs b1), C pa na ca, C pk nk ck, S (bs bt)]
 have HB3 := hI ((HB2.out.trans (hb3.mono HB2.out.size)).trans ((below_alloc1 w3 (.cells #[S ⟨#[97]⟩, S ⟨#[116]⟩, S ⟨#[109]⟩, S ⟨#[]⟩, S ⟨#[]⟩, C ph 0 ch, S (bs b0), S (bs b1), C pa na ca, C pk nk ck, S (bs bt)] 46)).mono (by have := HB2.out.size; have := hb3.size; omega)))
 have HC3 := hI (hc3.below (below_alloc1 w3 (.cells #[S ⟨#[97]⟩, S ⟨#[116]⟩, S ⟨#[109]⟩, S ⟨#[]⟩, S ⟨#[]⟩, C ph 0 ch, S (bs b0), S (bs b1), C pa na ca, C pk nk ck, S (bs bt)] 46)))
 obtain ⟨z0, z1, z2, z3, z4, z5, z6, z7, z8, z9, z10⟩ := n3.cc; obtain ⟨y0, y1, y2, y3, y4, y5, y6, y7, y8, y9, y10⟩ := hn3.cc
 have HN3 := hI n3
 clear hc3 hb3 hn3 n3
 go_wp2_with fail
 refine (HSM.out _ _ HC3.out).mono ?_
 rw [Env.eqb_refl]
 rintro e w4 ⟨rfl, hb4⟩
 have n4 := HN3.out.below hb4 HN3.out.lt
 have HB4 := hI (HB3.out.trans (hb4.mono HB3.out.size))
 have q3 := (n4.cell 3).trans rfl
 clear z0 z1 z2 z3 z4 z5 z6 z7 z8 z9 z10 y0 y1 y2 y3 y4 y5 y6 y7 y8 y9 y10 hb4 n4
 go_wp2_with fail
 go_ret
 exact ⟨rfl, HB4.out⟩
end Go.Proofs.YthboiahdheehkaaGreatDoor
