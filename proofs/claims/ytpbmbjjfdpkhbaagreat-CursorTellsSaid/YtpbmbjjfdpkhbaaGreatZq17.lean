/- part of the proof -/
import Derived.Test.YtpbmbjjfdpkhbaaGreatZq15
import Derived.Test.YtpbmbjjfdpkhbaaGreatZq1
import Derived.RangeFuncOwn
import Derived.RangeFuncLeaves
import Derived.OwnWalkIn
import Derived.TacticsInMore
import Derived.LoopIn
import Derived.LoopNIn
import Derived.Test.YtpbmbjjfdpkhbaaGreatZq16
import Derived.Test.YtpbmbjjfdpkhbaaGreatZq8
import Derived.Test.YtpbmbjjfdpkhbaaGreatZq10
namespace Go.Proofs.YtpbmbjjfdpkhbaaGreat
open Go Go.RowKit
set_option linter.all false
set_option maxRecDepth 100000
set_option maxHeartbeats 32000000
open Go.Proofs.Tryz
open And renaming intro->Lr
open Below renaming refl->Lg
open Bool renaming false_ne_true->Ld
open Go renaming bodyPost_end->Nj,bodyPost_ret->Li,callsIn_of_wp_marks->Nv,results_none->Ms,wpList_load_mid->LK,wpOpIn_step->LU,wpOp_step->Lj,wp_load_mid->LY
open Go.Lib renaming hid->Lc
open Go.World renaming putObj_heap_other->LA
open List renaming append_toArray->MP,cons_append->M4,getD_eq_getElem?_getD->LJ,getElem?_cons_succ->Ll,getElem?_cons_zero->Lm,getElem?_eq_getElem->Lu,getElem?_toArray->LB,nil_append->Ml,push_toArray->M3,size_toArray->LW
open Nat renaming le_refl->Lf,reduceAdd->Me,reduceSub->Mf
open Option.some renaming inj->Le
theorem yX (m:Mv) (w:World) (hs:MvAt w m) (ho:MvOk m):
  Calls prog 12 #[.agg m.row] w fun r w'=>r= .returned (.tuple #[.agg (iX m (0:Int)).row,.int .i64 (iV m (0:Int))])/\Below w.heap.size w w':=by
 obtain⟨W0,hW0⟩:∃W,((w.alloc (.cells m.row 42)).alloc (.cells #[.int .u64 0,.bool false,.int .i64 0] 44))=W:=⟨_,rfl⟩
 have hb0:Below w.heap.size w W0:=by rw[<-hW0];exact(((Lg _ _).alloc (by first|exact Lf _|(simp;done)|(simp;omega)) _).alloc (by first|exact Lf _|(simp;done)|(simp;omega)) _)
 have bq0:Blk W0 w.heap.size 42 m.row:=by rw[<-hW0];exact((Blk.new _ _ _).alloc _)
 have HQ0:=Lc bq0
 have bq1:Blk W0 (w.heap.size+1) 44 #[.int .u64 0,.bool false,.int .i64 0]:=by rw[<-hW0];exact(aj (by simp))
 have HQ1:=Lc bq1
 have HW0:=Lc hW0
 have HB0:=Lc hb0
 clear hW0 hb0 bq0 bq1
 have has:=gK m W0 (hs.below HB0.out) ho
 have hln:=fG ho
 unfold iX iV
 obtain⟨E,hE⟩:∃E,aQ m=E:=⟨_,rfl⟩
 rw[hE]at has hln ⊢
 obtain⟨Ps,hL⟩:∃Ps,allM m=Ps:=⟨_,rfl⟩
 rw[hL]at has hln ⊢
 by_cases he:E=0
 case neg=>
  rw[if_neg he,if_neg he]
  rw[if_neg he]at has
  have HAS:=Lc has
  clear has hE hL hln hs ho
  go_enter func12,ntmps12
  go_upto_region 1 with fail
  rw[HW0.out]
  try dsimp only[]
  repeat (first|refine ldb HQ0.out 0 underlying42 af rfl rfl rfl rfl ?_|go_values|go_skip|go_guarded|go_step|go_upon)
  refine HAS.out.mono ?_
  rintro e w1 ⟨A,c,rfl,ho1,hb1⟩
  have HB1:=Lc (aa HB0.out hb1)
  have HQ01:=Lc (HQ0.out.below hb1 HQ0.out.lt)
  have HQ11:=Lc (HQ1.out.below hb1 HQ1.out.lt)
  clear hb1 ho1
  have d0:=HQ11.out.cell
  have f0:=HQ11.out.frozen
  go_wp2_with fail
  have hR:=Lc (HQ11.out.set3 (.int .u64 0) (.bool false) (.int .i64 0))
  have e0:=hR.out.cell
  simp only[LB,Lm,Ll]at e0
  refine Li (v:= .tuple #[.agg #[.int .u64 0,.bool false,.int .i64 0],.int .i64 E]) (by simp[results,results12,go_sem,(e0 0),(e0 1),(e0 2)]) rfl ?_
  exact⟨rfl,(((HB1.out.setCell (p:=⟨(w.heap.size+1),0,none⟩) (by show w.heap.size<=(w.heap.size+1);omega) _).setCell (p:=⟨(w.heap.size+1),1,none⟩) (by show w.heap.size<=(w.heap.size+1);omega) _).setCell (p:=⟨(w.heap.size+1),2,none⟩) (by show w.heap.size<=(w.heap.size+1);omega) _)⟩
 case pos=>
 subst he
 rw[if_pos rfl,if_pos rfl]
 rw[if_pos rfl]at has
 have hln:=hln rfl
 have HAS:=Lc has
 obtain⟨K,hK⟩:∃K:Int,(0:Int)=K:=⟨_,rfl⟩
 rw[hK]
 have hset:=fun W A c (h:Sl W A (Ps.flatMap Pr.cells))=>lT m A Ps c K W h (by omega)
 obtain⟨C,hC⟩:∃C,dM m.ver Ps K=C:=⟨_,rfl⟩
 obtain⟨D,hD⟩:∃E,il Ps K=E:=⟨_,rfl⟩
 rw[hC,hD]at hset ⊢
 have HSET:=Lc hset
 subst hK
 clear has hE hL hln hs ho hset hC hD
 go_enter func12,ntmps12
 go_upto_region 1 with fail
 rw[HW0.out]
 try dsimp only[]
 repeat (first|refine ldb HQ0.out 0 underlying42 af rfl rfl rfl rfl ?_|go_values|go_skip|go_guarded|go_step|go_upon)
 refine HAS.out.mono ?_
 rintro e w1 ⟨A,c,rfl,ho1,hb1⟩
 have HB1:=Lc (aa HB0.out hb1)
 have HQ01:=Lc (HQ0.out.below hb1 HQ0.out.lt)
 have HQ11:=Lc (HQ1.out.below hb1 HQ1.out.lt)
 have HSL:=Lc (aA ho1)
 clear hb1 ho1
 go_upto_region 4 with fail
 try dsimp only[]
 repeat (first|refine ldb HQ01.out 0 underlying42 af rfl rfl rfl rfl ?_|go_values|go_skip|go_guarded|go_step|go_upon)
 refine(HSET.out _ _ _ HSL.out).mono ?_
 rintro e w2 ⟨rfl,hb2⟩
 have HB2:=Lc (aa HB1.out hb2)
 have HQ12:=Lc (HQ11.out.below hb2 HQ11.out.lt)
 clear hb2
 have d0:=HQ12.out.cell
 have f0:=HQ12.out.frozen
 go_wp2_with fail
 have hR:=Lc (HQ12.out.set3 (.int .u64 C.ver) (.bool C.on) (.int .i64 C.key))
 have e0:=hR.out.cell
 simp only[LB,Lm,Ll]at e0
 refine Li (v:= .tuple #[.agg #[.int .u64 C.ver,.bool C.on,.int .i64 C.key],.int .i64 D]) (by simp[results,results12,go_sem,(e0 0),(e0 1),(e0 2)]) rfl ?_
 exact⟨rfl,(((HB2.out.setCell (p:=⟨(w.heap.size+1),0,none⟩) (by show w.heap.size<=(w.heap.size+1);omega) _).setCell (p:=⟨(w.heap.size+1),1,none⟩) (by show w.heap.size<=(w.heap.size+1);omega) _).setCell (p:=⟨(w.heap.size+1),2,none⟩) (by show w.heap.size<=(w.heap.size+1);omega) _)⟩
theorem zN (m:Mv) (w:World) (hs:MvAt w m) (ho:MvOk m):
  Calls prog 14 #[.agg m.row] w fun r w'=>r= .returned (.tuple #[.agg (iX m ((allM m).length-1:Int)).row,.int .i64 (iV m ((allM m).length-1:Int))])/\Below w.heap.size w w':=by
 obtain⟨W0,hW0⟩:∃W,((w.alloc (.cells m.row 42)).alloc (.cells #[.int .u64 0,.bool false,.int .i64 0] 44))=W:=⟨_,rfl⟩
 have hb0:Below w.heap.size w W0:=by rw[<-hW0];exact(((Lg _ _).alloc (by first|exact Lf _|(simp;done)|(simp;omega)) _).alloc (by first|exact Lf _|(simp;done)|(simp;omega)) _)
 have bq0:Blk W0 w.heap.size 42 m.row:=by rw[<-hW0];exact((Blk.new _ _ _).alloc _)
 have HQ0:=Lc bq0
 have bq1:Blk W0 (w.heap.size+1) 44 #[.int .u64 0,.bool false,.int .i64 0]:=by rw[<-hW0];exact(aj (by simp))
 have HQ1:=Lc bq1
 have HW0:=Lc hW0
 have HB0:=Lc hb0
 clear hW0 hb0 bq0 bq1
 have has:=gK m W0 (hs.below HB0.out) ho
 have hln:=fG ho
 unfold iX iV
 obtain⟨E,hE⟩:∃E,aQ m=E:=⟨_,rfl⟩
 rw[hE]at has hln ⊢
 obtain⟨Ps,hL⟩:∃Ps,allM m=Ps:=⟨_,rfl⟩
 rw[hL]at has hln ⊢
 by_cases he:E=0
 case neg=>
  rw[if_neg he,if_neg he]
  rw[if_neg he]at has
  have HAS:=Lc has
  clear has hE hL hln hs ho
  go_enter func14,ntmps14
  go_upto_region 1 with fail
  rw[HW0.out]
  try dsimp only[]
  repeat (first|refine LK rfl 42 (.tmp 1) rfl w.heap.size 0 rfl _ _ (ae HQ0.out 0 46 rfl) underlying42 rfl af ?_|refine LY 42 (.tmp 1) rfl w.heap.size 0 rfl _ _ (ae HQ0.out 0 46 rfl) underlying42 rfl af ?_|go_values|go_skip|go_guarded|go_step|go_upon)
  refine HAS.out.mono ?_
  rintro e w1 ⟨A,c,rfl,ho1,hb1⟩
  have HB1:=Lc (aa HB0.out hb1)
  have HQ01:=Lc (HQ0.out.below hb1 HQ0.out.lt)
  have HQ11:=Lc (HQ1.out.below hb1 HQ1.out.lt)
  clear hb1 ho1
  have d0:=HQ11.out.cell
  have f0:=HQ11.out.frozen
  go_wp2_with fail
  have hR:=Lc (HQ11.out.set3 (.int .u64 0) (.bool false) (.int .i64 0))
  have e0:=hR.out.cell
  simp only[LB,Lm,Ll]at e0
  refine Li (v:= .tuple #[.agg #[.int .u64 0,.bool false,.int .i64 0],.int .i64 E]) (by simp[results,results14,go_sem,(e0 0),(e0 1),(e0 2)]) rfl ?_
  exact⟨rfl,(((HB1.out.setCell (p:=⟨(w.heap.size+1),0,none⟩) (by show w.heap.size<=(w.heap.size+1);omega) _).setCell (p:=⟨(w.heap.size+1),1,none⟩) (by show w.heap.size<=(w.heap.size+1);omega) _).setCell (p:=⟨(w.heap.size+1),2,none⟩) (by show w.heap.size<=(w.heap.size+1);omega) _)⟩
 case pos=>
 subst he
 rw[if_pos rfl,if_pos rfl]
 rw[if_pos rfl]at has
 have hln:=hln rfl
 have HAS:=Lc has
 obtain⟨K,hK⟩:∃K:Int,((Ps.length:Int)-1)=K:=⟨_,rfl⟩
 rw[hK]
 have hset:=fun W A c (h:Sl W A (Ps.flatMap Pr.cells))=>lT m A Ps c K W h (by omega)
 obtain⟨C,hC⟩:∃C,dM m.ver Ps K=C:=⟨_,rfl⟩
 obtain⟨D,hD⟩:∃E,il Ps K=E:=⟨_,rfl⟩
 rw[hC,hD]at hset ⊢
 have HSET:=Lc hset
 have hwr:IntKind.i64.wrap ((Ps.length:Int)-1)=K:=by rw[IntWalk.i64_in _ (by omega)];exact hK
 have HWR:=Lc hwr
 clear hwr hK
 clear has hE hL hln hs ho hset hC hD
 go_enter func14,ntmps14
 go_upto_region 1 with fail
 rw[HW0.out]
 try dsimp only[]
 repeat (first|refine LK rfl 42 (.tmp 1) rfl w.heap.size 0 rfl _ _ (ae HQ0.out 0 46 rfl) underlying42 rfl af ?_|refine LY 42 (.tmp 1) rfl w.heap.size 0 rfl _ _ (ae HQ0.out 0 46 rfl) underlying42 rfl af ?_|go_values|go_skip|go_guarded|go_step|go_upon)
 refine HAS.out.mono ?_
 rintro e w1 ⟨A,c,rfl,ho1,hb1⟩
 have HB1:=Lc (aa HB0.out hb1)
 have HQ01:=Lc (HQ0.out.below hb1 HQ0.out.lt)
 have HQ11:=Lc (HQ1.out.below hb1 HQ1.out.lt)
 have HSL:=Lc (aA ho1)
 clear hb1 ho1
 go_upto_region 4 with fail
 have hwr:=HWR.out
 try dsimp only[]
 repeat (first|refine LK rfl 42 (.tmp 1) rfl w.heap.size 0 rfl _ _ (ae HQ01.out 0 46 rfl) underlying42 rfl af ?_|refine LY 42 (.tmp 1) rfl w.heap.size 0 rfl _ _ (ae HQ01.out 0 46 rfl) underlying42 rfl af ?_|go_values|go_skip|go_guarded|go_step|go_upon)
 refine(HSET.out _ _ _ HSL.out).mono ?_
 rintro e w2 ⟨rfl,hb2⟩
 have HB2:=Lc (aa HB1.out hb2)
 have HQ12:=Lc (HQ11.out.below hb2 HQ11.out.lt)
 clear hb2
 have d0:=HQ12.out.cell
 have f0:=HQ12.out.frozen
 go_wp2_with fail
 have hR:=Lc (HQ12.out.set3 (.int .u64 C.ver) (.bool C.on) (.int .i64 C.key))
 have e0:=hR.out.cell
 simp only[LB,Lm,Ll]at e0
 refine Li (v:= .tuple #[.agg #[.int .u64 C.ver,.bool C.on,.int .i64 C.key],.int .i64 D]) (by simp[results,results14,go_sem,(e0 0),(e0 1),(e0 2)]) rfl ?_
 exact⟨rfl,(((HB2.out.setCell (p:=⟨(w.heap.size+1),0,none⟩) (by show w.heap.size<=(w.heap.size+1);omega) _).setCell (p:=⟨(w.heap.size+1),1,none⟩) (by show w.heap.size<=(w.heap.size+1);omega) _).setCell (p:=⟨(w.heap.size+1),2,none⟩) (by show w.heap.size<=(w.heap.size+1);omega) _)⟩
theorem gH {P:Prop} (h:P:=by
  iterate 9 apply Exists.intro
  refine⟨rfl,?_,?_,?_,?_,?_,?_,?_,?_,?_,?_,?_,?_,?_,?_,?_,?_,?_⟩
  ·first|exact HB0.out|exact fun _=>aa HB.out hb1|(intro h;refine absurd h ?_;simp;done;done)
  ·first|exact F0.out|exact fun _=>rfl
  ·first|exact F1.out|exact fun _=>rfl
  ·first|exact F2.out|exact fun _=>rfl
  ·first|exact F3.out|exact fun _=>rfl
  ·first|exact F4.out|exact fun _=>rfl
  ·first|exact F5.out|exact fun _=>rfl
  ·first|exact F6.out|exact fun _=>rfl
  ·first|exact F7.out|exact fun _=>rfl
  ·first|exact F8.out|exact(fun h=>absurd (show L 8=true by simpa using h) (by rw[hlast];exact Ld))|exact(fun _=>⟨(Mod.of_ext HB.out).trans (bg (S:=fun k=>k=(w.heap.size+1)) rfl _ 0 _),by simpa[dn]using Blk.setCells (#[.int .u64 C.ver,.bool C.on,.int .i64 C.key]:Array Value).toList 0 _ _ hbk⟩)
  ·first|exact F9.out|exact fun _=>rfl
  ·first|(intro h;have hh:=C4.out (by simpa using h);simp[hh];done)|(intro _;simp[hl2,hl3];done)
  ·first|(intro h;have hh:=C5.out (by simpa using h);simp[hh];done)|(intro _;simp[hl0,hl1,hl4];done)
  ·first|(intro h;have hh:=C6.out (by simpa using h);simp[hh];done)|(intro _;simp[hl5];done)
  ·first|(intro h;have hh:=C7.out (by simpa using h);simp[hh];done)|(intro _;simp[hl5];done)
  ·first|(intro h;have hh:=C8.out (by simpa using h);simp[hh];done)|(intro _;simp[hl6,hl5,hl7];done)
  ·first|(intro h;have hh:=C9.out (by simpa using h);simp[hh];done)|(intro _;simp[hl7,hl8];done)):P:=h
theorem Br (m:Mv) (key:Int) (w:World) (hs:MvAt w m) (ho:MvOk m):
  Calls prog 16 #[.agg m.row,.int .i64 key] w fun r w'=>r= .returned (.tuple #[.agg (iX m ((bel (allM m) key:Nat):Int)).row,.int .i64 (iV m ((bel (allM m) key:Nat):Int))])/\Below w.heap.size w w':=by
 obtain⟨W0,hW0⟩:∃W,((w.alloc (.cells m.row 42)).alloc (.cells #[.int .u64 0,.bool false,.int .i64 0] 44))=W:=⟨_,rfl⟩
 have hb0:Below w.heap.size w W0:=by rw[<-hW0];exact(((Lg _ _).alloc (by first|exact Lf _|(simp;done)|(simp;omega)) _).alloc (by first|exact Lf _|(simp;done)|(simp;omega)) _)
 have bq0:Blk W0 w.heap.size 42 m.row:=by rw[<-hW0];exact((Blk.new _ _ _).alloc _)
 have HQ0:=Lc bq0
 have bq1:Blk W0 (w.heap.size+1) 44 #[.int .u64 0,.bool false,.int .i64 0]:=by rw[<-hW0];exact(aj (by simp))
 have HQ1:=Lc bq1
 have HW0:=Lc hW0
 have HB0:=Lc hb0
 clear hW0 hb0 bq0 bq1
 have has:=gK m W0 (hs.below HB0.out) ho
 have hln:=fG ho
 unfold iX iV
 obtain⟨E,hE⟩:∃E,aQ m=E:=⟨_,rfl⟩
 rw[hE]at has hln ⊢
 obtain⟨Ps,hL⟩:∃Ps,allM m=Ps:=⟨_,rfl⟩
 rw[hL]at has hln ⊢
 by_cases he:E=0
 case neg=>
  rw[if_neg he,if_neg he]
  rw[if_neg he]at has
  have HAS:=Lc has
  clear has hE hL hln hs ho
  go_enter func16,ntmps16
  go_upto_region 1 with fail
  rw[HW0.out]
  try dsimp only[]
  repeat (first|refine LK rfl 42 (.tmp 2) rfl w.heap.size 0 rfl _ _ (ae HQ0.out 0 46 rfl) underlying42 rfl af ?_|refine LY 42 (.tmp 2) rfl w.heap.size 0 rfl _ _ (ae HQ0.out 0 46 rfl) underlying42 rfl af ?_|go_values|go_skip|go_guarded|go_step|go_upon)
  refine HAS.out.mono ?_
  rintro e w1 ⟨A,c,rfl,ho1,hb1⟩
  have HB1:=Lc (aa HB0.out hb1)
  have HQ01:=Lc (HQ0.out.below hb1 HQ0.out.lt)
  have HQ11:=Lc (HQ1.out.below hb1 HQ1.out.lt)
  clear hb1 ho1
  have d0:w1.cell? ⟨(w.heap.size+1),0,none⟩=some (.int .u64 0):=HQ11.out.cell 0
  have d1:w1.cell? ⟨(w.heap.size+1),1,none⟩=some (.bool false):=HQ11.out.cell 1
  have d2:w1.cell? ⟨(w.heap.size+1),2,none⟩=some (.int .i64 0):=HQ11.out.cell 2
  have f0:w1.frozen? ⟨(w.heap.size+1),0,none⟩=false:=HQ11.out.frozen 0
  have f1:w1.frozen? ⟨(w.heap.size+1),1,none⟩=false:=HQ11.out.frozen 1
  have f2:w1.frozen? ⟨(w.heap.size+1),2,none⟩=false:=HQ11.out.frozen 2
  go_wp2_with fail
  have hR:=Lc (HQ11.out.set3 (.int .u64 0) (.bool false) (.int .i64 0))
  have e0:=hR.out.cell 0
  have e1:=hR.out.cell 1
  have e2:=hR.out.cell 2
  simp only[LB,Lm,Ll]at e0 e1 e2
  refine Li (v:= .tuple #[.agg #[.int .u64 0,.bool false,.int .i64 0],.int .i64 E]) (by simp[results,results16,go_sem,e0,e1,e2]) rfl ?_
  exact⟨rfl,(((HB1.out.setCell (p:=⟨(w.heap.size+1),0,none⟩) (by show w.heap.size<=(w.heap.size+1);omega) _).setCell (p:=⟨(w.heap.size+1),1,none⟩) (by show w.heap.size<=(w.heap.size+1);omega) _).setCell (p:=⟨(w.heap.size+1),2,none⟩) (by show w.heap.size<=(w.heap.size+1);omega) _)⟩
 case pos=>
 subst he
 rw[if_pos rfl,if_pos rfl]
 rw[if_pos rfl]at has
 have hln:=hln rfl
 have HAS:=Lc has
 obtain⟨K,hK⟩:∃K:Int,((bel Ps key:Nat):Int)=K:=⟨_,rfl⟩
 rw[hK]
 have hset:=fun W A c (h:Sl W A (Ps.flatMap Pr.cells))=>lT m A Ps c K W h (by omega)
 obtain⟨C,hC⟩:∃C,dM m.ver Ps K=C:=⟨_,rfl⟩
 obtain⟨D,hD⟩:∃E,il Ps K=E:=⟨_,rfl⟩
 rw[hC,hD]at hset ⊢
 have HSET:=Lc hset
 have hbe:=fun W A c (h:Sl W A (Ps.flatMap Pr.cells))=>ku A Ps c key W h (by omega)
 rw[hK]at hbe
 have HBE:=Lc hbe
 clear hbe hK
 clear has hE hL hln hs ho hset hC hD
 go_enter func16,ntmps16
 go_upto_region 1 with fail
 rw[HW0.out]
 try dsimp only[]
 repeat (first|refine LK rfl 42 (.tmp 2) rfl w.heap.size 0 rfl _ _ (ae HQ0.out 0 46 rfl) underlying42 rfl af ?_|refine LY 42 (.tmp 2) rfl w.heap.size 0 rfl _ _ (ae HQ0.out 0 46 rfl) underlying42 rfl af ?_|go_values|go_skip|go_guarded|go_step|go_upon)
 refine HAS.out.mono ?_
 rintro e w1 ⟨A,c,rfl,ho1,hb1⟩
 have HB1:=Lc (aa HB0.out hb1)
 have HQ01:=Lc (HQ0.out.below hb1 HQ0.out.lt)
 have HQ11:=Lc (HQ1.out.below hb1 HQ1.out.lt)
 have HSL:=Lc (aA ho1)
 clear hb1 ho1
 go_upto_region 4 with fail
 refine aM (by kernel_rfl) (by kernel_rfl) (fun L a W=>∃(t17 t18 t19 t20 t21 t22 t23 t24 t5:Value),a=⟨#[(.agg m.row),(.int .i64 key),(.pointer (some ⟨w.heap.size,0,none⟩)),undef,(.pointer (some ⟨(w.heap.size+1),0,none⟩)),t5,(.slice A Ps.length c),(.int .i64 0),(.tuple #[.slice A Ps.length c,.int .i64 0]),(.agg m.row),(.tuple #[.slice A Ps.length c,.int .i64 0]),(.slice A Ps.length c),(.int .i64 0),(.int .i64 0),(.bool false),undef,undef,t17,t18,t19,t20,t21,t22,t23,t24],[]⟩/\(L 8=false->Below w1.heap.size w1 W)/\(L 0=true->t17= .agg m.row)/\(L 1=true->t18= .slice A Ps.length c)/\(L 2=true->t19= .slice A Ps.length c)/\(L 3=true->t20= .int .i64 key)/\(L 4=true->t21= .int .i64 K)/\(L 5=true->t22= .tuple #[.agg #[.int .u64 C.ver,.bool C.on,.int .i64 C.key],.int .i64 D])/\(L 6=true->t23= .agg #[.int .u64 C.ver,.bool C.on,.int .i64 C.key])/\(L 7=true->t24= .int .i64 D)/\(L 8=true->Mod (fun k=>k=(w.heap.size+1)) w1 W/\Blk W (w.heap.size+1) 44 #[.int .u64 C.ver,.bool C.on,.int .i64 C.key])/\(L 9=true->t5= .int .i64 D)/\(L 4=true->L 2=true/\L 3=true)/\(L 5=true->L 0=true/\L 1=true/\L 4=true)/\(L 6=true->L 5=true)/\(L 7=true->L 5=true)/\(L 8=true->L 6=true/\L 5=true/\L 7=true)/\(L 9=true->L 7=true/\L 8=true)) ?h0 ?hstep ?hend
 case h0=>exact⟨undef,undef,undef,undef,undef,undef,undef,undef,(.int .i64 0),rfl,fun _=>(Lg _ _).drew,fun h=>absurd h Ld,fun h=>absurd h Ld,fun h=>absurd h Ld,fun h=>absurd h Ld,fun h=>absurd h Ld,fun h=>absurd h Ld,fun h=>absurd h Ld,fun h=>absurd h Ld,fun h=>absurd h Ld,fun h=>absurd h Ld,fun h=>absurd h Ld,fun h=>absurd h Ld,fun h=>absurd h Ld,fun h=>absurd h Ld,fun h=>absurd h Ld,fun h=>absurd h Ld⟩
 case hend=>
  rintro L a W hall ⟨t17,t18,t19,t20,t21,t22,t23,t24,t5,rfl,hb,f0,f1,f2,f3,f4,f5,f6,f7,f8,f9,c4,c5,c6,c7,c8,c9⟩
  have z0:=f0 (hall 0 (by decide))
  have z1:=f1 (hall 1 (by decide))
  have z2:=f2 (hall 2 (by decide))
  have z3:=f3 (hall 3 (by decide))
  have z4:=f4 (hall 4 (by decide))
  have z5:=f5 (hall 5 (by decide))
  have z6:=f6 (hall 6 (by decide))
  have z7:=f7 (hall 7 (by decide))
  have z8:=f8 (hall 8 (by decide))
  have z9:=f9 (hall 9 (by decide))
  clear hall f0 f1 f2 f3 f4 f5 f6 f7 f8 f9 c4 c5 c6 c7 c8 c9 hb
  have HR3:=Lc z8.2
  have HM3:=Lc z8.1
  clear z0 z1 z2 z3 z4 z5 z6 z7 z8
  obtain rfl:=z9
  have e0:W.cell? ⟨(w.heap.size+1),0,none⟩=some (.int .u64 C.ver):=HR3.out.cell 0
  have e1:W.cell? ⟨(w.heap.size+1),1,none⟩=some (.bool C.on):=HR3.out.cell 1
  have e2:W.cell? ⟨(w.heap.size+1),2,none⟩=some (.int .i64 C.key):=HR3.out.cell 2
  go_wp2_with fail
  refine Li (v:= .tuple #[.agg #[.int .u64 C.ver,.bool C.on,.int .i64 C.key],.int .i64 D]) (by simp[results,results16,go_sem,e0,e1,e2]) rfl ?_
  exact⟨rfl,HB1.out.trans (HM3.out.below HB1.out.size (fun b hb=>by have hb:b=w.heap.size+1:=hb;omega))⟩
 case hstep=>
  rintro L a W i o ho hLi hdep ⟨t17,t18,t19,t20,t21,t22,t23,t24,t5,rfl,hb,f0,f1,f2,f3,f4,f5,f6,f7,f8,f9,c4,c5,c6,c7,c8,c9⟩
  have F0:=Lc f0
  have F1:=Lc f1
  have F2:=Lc f2
  have F3:=Lc f3
  have F4:=Lc f4
  have F5:=Lc f5
  have F6:=Lc f6
  have F7:=Lc f7
  have F8:=Lc f8
  have F9:=Lc f9
  have C4:=Lc c4
  have C5:=Lc c5
  have C6:=Lc c6
  have C7:=Lc c7
  have C8:=Lc c8
  have C9:=Lc c9
  have HB0:=Lc hb
  clear hb f0 f1 f2 f3 f4 f5 f6 f7 f8 f9 c4 c5 c6 c7 c8 c9
  have HLi:=Lc hLi
  clear hLi
  match i,ho with
  |0,ho=>
   obtain rfl:=Le ho
   clear hdep
   have hlast:L 8=false:=by
    cases h:L 8 with
    |false=>rfl
    |true=>exact absurd ((C5.out (C8.out h).2.1).1) (by rw[HLi.out];exact Ld)
   have HB:=Lc (HB0.out hlast)
   refine Lj rfl (fun K1 hK1=>?_)
   have hK:=Lc hK1
   clear hK1
   try dsimp only[]
   repeat (first|refine LK rfl 42 (.tmp 2) rfl w.heap.size 0 rfl _ _ (ae (HQ01.out.below HB.out HQ01.out.lt) 0 46 rfl) underlying42 rfl af ?_|refine LY 42 (.tmp 2) rfl w.heap.size 0 rfl _ _ (ae (HQ01.out.below HB.out HQ01.out.lt) 0 46 rfl) underlying42 rfl af ?_|go_values|go_skip|go_guarded|go_step|go_upon)
   refine hK.out _ _ ?_;exact gH
  |1,ho=>
   obtain rfl:=Le ho
   clear hdep
   have hlast:L 8=false:=by
    cases h:L 8 with
    |false=>rfl
    |true=>exact absurd ((C5.out (C8.out h).2.1).2.1) (by rw[HLi.out];exact Ld)
   have HB:=Lc (HB0.out hlast)
   refine Lj rfl (fun K1 hK1=>?_)
   have hK:=Lc hK1
   clear hK1
   go_wp2_with fail
   refine hK.out _ _ ?_;exact gH
  |2,ho=>
   obtain rfl:=Le ho
   clear hdep
   have hlast:L 8=false:=by
    cases h:L 8 with
    |false=>rfl
    |true=>exact absurd ((C4.out (C5.out (C8.out h).2.1).2.2).1) (by rw[HLi.out];exact Ld)
   have HB:=Lc (HB0.out hlast)
   refine Lj rfl (fun K1 hK1=>?_)
   have hK:=Lc hK1
   clear hK1
   go_wp2_with fail
   refine hK.out _ _ ?_;exact gH
  |3,ho=>
   obtain rfl:=Le ho
   clear hdep
   have hlast:L 8=false:=by
    cases h:L 8 with
    |false=>rfl
    |true=>exact absurd ((C4.out (C5.out (C8.out h).2.1).2.2).2) (by rw[HLi.out];exact Ld)
   have HB:=Lc (HB0.out hlast)
   refine Lj rfl (fun K1 hK1=>?_)
   have hK:=Lc hK1
   clear hK1
   go_wp2_with fail
   refine hK.out _ _ ?_;exact gH
  |4,ho=>
   obtain rfl:=Le ho
   have hl2:=hdep ⟨2,.data⟩ (by simp) rfl
   obtain rfl:=F2.out hl2
   have hl3:=hdep ⟨3,.data⟩ (by simp) rfl
   obtain rfl:=F3.out hl3
   clear hdep
   have hlast:L 8=false:=by
    cases h:L 8 with
    |false=>rfl
    |true=>exact absurd ((C5.out (C8.out h).2.1).2.2) (by rw[HLi.out];exact Ld)
   have HB:=Lc (HB0.out hlast)
   refine Lj rfl (fun K1 hK1=>?_)
   have hK:=Lc hK1
   clear hK1
   go_wp2_with (go_at_call 35;refine(HBE.out _ _ _ (HSL.out.below HB.out)).mono ?_;rintro e1 W1 ⟨rfl,hb1⟩)
   refine hK.out _ _ ?_;exact gH
  |5,ho=>
   obtain rfl:=Le ho
   have hl0:=hdep ⟨0,.data⟩ (by simp) rfl
   obtain rfl:=F0.out hl0
   have hl1:=hdep ⟨1,.data⟩ (by simp) rfl
   obtain rfl:=F1.out hl1
   have hl4:=hdep ⟨4,.data⟩ (by simp) rfl
   obtain rfl:=F4.out hl4
   clear hdep
   have hlast:L 8=false:=by
    cases h:L 8 with
    |false=>rfl
    |true=>exact absurd ((C8.out h).2.1) (by rw[HLi.out];exact Ld)
   have HB:=Lc (HB0.out hlast)
   refine Lj rfl (fun K1 hK1=>?_)
   have hK:=Lc hK1
   clear hK1
   go_wp2_with (go_at_call 36;refine(HSET.out _ _ _ (HSL.out.below HB.out)).mono ?_;rintro e1 W1 ⟨rfl,hb1⟩)
   refine hK.out _ _ ?_;exact gH
  |6,ho=>
   obtain rfl:=Le ho
   have hl5:=hdep ⟨5,.data⟩ (by simp) rfl
   obtain rfl:=F5.out hl5
   clear hdep
   have hlast:L 8=false:=by
    cases h:L 8 with
    |false=>rfl
    |true=>exact absurd ((C8.out h).1) (by rw[HLi.out];exact Ld)
   have HB:=Lc (HB0.out hlast)
   refine Lj rfl (fun K1 hK1=>?_)
   have hK:=Lc hK1
   clear hK1
   go_wp2_with fail
   refine hK.out _ _ ?_;exact gH
  |7,ho=>
   obtain rfl:=Le ho
   have hl5:=hdep ⟨5,.data⟩ (by simp) rfl
   obtain rfl:=F5.out hl5
   clear hdep
   have hlast:L 8=false:=by
    cases h:L 8 with
    |false=>rfl
    |true=>exact absurd ((C8.out h).2.2) (by rw[HLi.out];exact Ld)
   have HB:=Lc (HB0.out hlast)
   refine Lj rfl (fun K1 hK1=>?_)
   have hK:=Lc hK1
   clear hK1
   go_wp2_with fail
   refine hK.out _ _ ?_;exact gH
  |8,ho=>
   obtain rfl:=Le ho
   have hl6:=hdep ⟨6,.data⟩ (by simp) rfl
   obtain rfl:=F6.out hl6
   have hl5:=hdep ⟨5,.chain⟩ (by simp) rfl
   obtain rfl:=F5.out hl5
   have hl7:=hdep ⟨7,.phase⟩ (by simp) rfl
   obtain rfl:=F7.out hl7
   clear hdep
   have hlast:=HLi.out
   have HB:=Lc (HB0.out hlast)
   refine Lj rfl (fun K1 hK1=>?_)
   have hK:=Lc hK1
   clear hK1
   have hbk:=HQ11.out.below HB.out HQ11.out.lt
   refine aP rfl 44 (.tmp 4) (.tmp 23) rfl (w.heap.size+1) 0 #[.int .u64 C.ver,.bool C.on,.int .i64 C.key] rfl rfl (bI hbk 0 3 (by simp)) dE (all_oneCell_toArray (by simp[Value.oneCell'])) ?_
   refine hK.out _ _ ?_;exact gH
  |9,ho=>
   obtain rfl:=Le ho
   have hl7:=hdep ⟨7,.data⟩ (by simp) rfl
   obtain rfl:=F7.out hl7
   have hl8:=hdep ⟨8,.chain⟩ (by simp) rfl
   clear hdep
   refine Lj rfl (fun K1 hK1=>?_)
   have hK:=Lc hK1
   clear hK1
   go_wp2_with fail
   refine hK.out _ _ ?_;exact gH
def Cq (F:Fence) (P:Program) (g:FuncId) (lb:Array Value) (N:Nat) (xs:Nat->Array Value) (K:Nat->Prop) (S:Nat->World->Prop) (E:World->Prop) (T:Nat->Prop) (w:World):Prop:=
 ∀(l:Nat) (I:Nat->World->Prop) (X:World->Prop) (W:World),
  w.heap.size<=W.heap.size->(∀b,K b->W.heap[b]?=w.heap[b]?)->
  (∀k A B,I k A->Mod T A B->I k B)->(∀A B,X A->Mod (fun _=>False) A B->X B)->
  (∀k A,k< N->I k A->S k A->YieldAt F 0 P l (xs k) A fun e B=>
    (e= .returned (.bool true)/\I (k+1) B/\A.heap.size<=B.heap.size/\∀b,K b->B.heap[b]?=A.heap[b]?)∨(e= .returned (.bool false)/\X B))->
  I 0 W->
  CallsIn F 0 P g (#[.func (.yield l) #[] #[]]++lb) W fun e W'=>(∃v,e= .returned v)/\((I N W'/\E W')∨X W')
theorem yU {F:Fence} {P:Program} {g:Operand} {ps:Array Tmp} {assign body:Code} {Q:Exit->Act->World->Prop} {a:Act} {w:World}
  (hd:F.depth=none) (hF:∀f,F.fn f) (hro:F.round=none)
  {gf:Nat} {lb:Array Value} (hg:a.eval g= .func (.func gf) #[] lb) (eg:∀args w,(callFunc gf args).run P w= .ok (.enter gf args) w)
  {N:Nat} {xs:Nat->Array Value} {K T:Nat->Prop} {S:Nat->World->Prop} {E:World->Prop} (hy:Cq F P gf lb N xs K S E T w)
  (hSK:∀k A B,S k A->A.heap.size<=B.heap.size->(∀b,K b->B.heap[b]?=A.heap[b]?)->S k B) (hEK:∀A B,E A->A.heap.size<=B.heap.size->(∀b,K b->B.heap[b]?=A.heap[b]?)->E B) (hK:∀b,K b->b< w.heap.size) (hT:∀b,T b->b< w.heap.size)
  (hps:∀k,(xs k).size=ps.size)
  (I:Nat->World->Prop) (Ix:Code->World->Prop)
  (hI:∀k A B,I k A->Mod (fun b=>T b∨b=w.heap.size∨b=w.heap.size+1) A B->I k B)
  (hIx:∀c A B,Ix c A->Mod (fun b=>b=w.heap.size∨b=w.heap.size+1) A B->Ix c B)
  (h0:I 0 w) (Ax:Nat->Act->World->Prop)
  (hAx:∀k a' A B,Ax k a' A->Mod (fun b=>T b∨b=w.heap.size∨b=w.heap.size+1) A B->Ax k a' B)
  (hassign:∀(l k:Nat),k< N->∀(A:World) (C:Act->World->Prop),I k A->w.heap.size+2<=A.heap.size->
   (∀a' A',Mod (fun b=>b≠w.heap.size/\b≠w.heap.size+1/\¬K b) A A'->I k A'->Ax k a' A'->C a' A')->
   assign.wpIn (F.inRound l) 0 P (Exit.then C (fun _ _ _=>False)) {tmps:=(ps.zip (xs k)).foldl (fun t (p,v)=>t.setIfInBounds p v) a.tmps,defers:=[]} A)
  (hbody:∀(l k:Nat),k< N->∀(a':Act) (A:World),I k A->S k A->Ax k a' A->w.heap.size+2<=A.heap.size->
   body.wpIn (F.inRound l) 0 P (zq w.heap.size K (I (k+1)) Ix A) a' A)
  (hdone:∀(W:World),I N W->E W->W.heap[w.heap.size]?=some (.deferred (some []))->Q .normal {a with defers:={target:= .collected w.heap.size,args:=#[]}::a.defers} W)
  (hstop:∀(c:Code) (W:World),Ix c W->W.heap[w.heap.size]?=some (.deferred (some []))->c.wpIn F 0 P Q {a with defers:={target:= .collected w.heap.size,args:=#[]}::a.defers} W):
  (Code.rangeFunc g ps assign body).wpIn F 0 P Q a w:=by
 refine wpIn_rangeFunc ?_
 intro fn hfn
 rw[hro]
 obtain⟨rec,hrec⟩:∃rec:LoopState->Option Code->Loop,rec=fun st pe=>{state:=st,pending:=pe,fn,tmps:=a.tmps,params:=ps,assign,body,defers:=w.heap.size}:=⟨_,rfl⟩
 obtain⟨W1,hW1⟩:∃W1,(w.alloc (.deferred (some []))).alloc (.loop (rec .ready none))=W1:=⟨_,rfl⟩
 have hL1:W1.heap[w.heap.size+1]?=some (.loop (rec .ready none)):=by
  rw[<-hW1];have:=World.alloc_heap_new (w.alloc (.deferred (some []))) (.loop (rec .ready none));rwa [World.size_alloc]at this
 have hK1:W1.heap[w.heap.size]?=some (.deferred (some [])):=by
  rw[<-hW1];exact(Below.heap_alloc _ _ _ (by simp)).trans (World.alloc_heap_new w _)
 have hm1:∀S,Mod S w W1:=fun S=>by rw[<-hW1];exact((Mod.refl S w).alloc _).alloc _
 have hs1:W1.heap.size=w.heap.size+2:=by rw[<-hW1];simp
 refine⟨w.heap.size+1,[{target:= .collected w.heap.size,args:=#[]}],W1,{target:= .fn (.func gf) lb,args:=#[.func (.yield (w.heap.size+1)) #[] #[]]},W1,gf,
  #[.func (.yield (w.heap.size+1)) #[] #[]]++lb,W1,?_,?_,?_,?_,(fun h=>by rw[hd]at h;cases h),?_⟩
 ·rw[<-hW1,hrec];exact run_enterLoop_outer _ _ _ _ _
 ·simp only[resolve,hg]
  simp[go_sem]
 ·intro f' _;exact hF _
 ·simp[invoke,go_sem,eg]
 ·have hTne:∀b,T b->b≠w.heap.size/\b≠w.heap.size+1:=fun b hb=>by have:=hT b hb;omega
  have hKne:∀b,K b->b≠w.heap.size/\b≠w.heap.size+1:=fun b hb=>by have:=hK b hb;omega
  refine(hy (w.heap.size+1)
   (fun k W=>I k W/\W.heap[w.heap.size+1]?=some (.loop (rec .ready none))/\W.heap[w.heap.size]?=some (.deferred (some [])))
   (fun W=>∃c,Ix c W/\W.heap[w.heap.size+1]?=some (.loop (rec .done (some c)))/\W.heap[w.heap.size]?=some (.deferred (some [])))
   W1 (by omega) (fun b hb=>(hm1 (fun _=>False)).block b (hK b hb) (fun h=>h))
   ?stab ?stabx ?round ⟨hI 0 _ _ h0 (hm1 _),hL1,hK1⟩).mono ?behind
  case stab=>
   rintro k A B ⟨hi,hl,hk⟩ hm
   refine⟨hI _ _ _ hi (hm.mono fun _ _ h=> .inl h),?_,?_⟩
   ·exact(hm.block _ (Array.getElem?_eq_some_iff.1 hl).1 (fun h=>(hTne _ h).2 rfl)).trans hl
   ·exact(hm.block _ (Array.getElem?_eq_some_iff.1 hk).1 (fun h=>(hTne _ h).1 rfl)).trans hk
  case stabx=>
   rintro A B ⟨c,hi,hl,hk⟩ hm
   refine⟨c,hIx _ _ _ hi (hm.mono fun _ _ h=>h.elim),?_,?_⟩
   ·exact(hm.block _ (Array.getElem?_eq_some_iff.1 hl).1 (fun h=>h.elim)).trans hl
   ·exact(hm.block _ (Array.getElem?_eq_some_iff.1 hk).1 (fun h=>h.elim)).trans hk
  case round=>
   rintro k A hk ⟨hi,hl,hD⟩ hSA
   have hlt:w.heap.size+1< A.heap.size:=(Array.getElem?_eq_some_iff.1 hl).1
   have hyd:=run_yield (P:=P) (args:=xs k) hl (by rw[hrec];exact hps k)
   rw[hrec]at hyd
   refine⟨fn,_,assign,body,hyd,roundIn_of_wpIn hfn (hassign _ k hk A _ hi (by omega) ?_)⟩
   clear hyd
   intro a' A1 hm hi1 hax
   have hl1:A1.heap[w.heap.size+1]?=some (.loop (rec .ready none)):=(hm.block _ hlt (fun h=>h.2.1 rfl)).trans hl
   have hD1:A1.heap[w.heap.size]?=some (.deferred (some [])):=(hm.block _ (by omega) (fun h=>h.1 rfl)).trans hD
   have hlt1:w.heap.size+1< A1.heap.size:=(Array.getElem?_eq_some_iff.1 hl1).1
   refine⟨_,run_beginRound hl1 (by rw[hrec]),?_⟩
   obtain⟨A2,hA2⟩:∃A2,A1.putObj (w.heap.size+1) (.loop {rec .ready none with state:= .busy})=A2:=⟨_,rfl⟩
   rw[hA2]
   have hl2:A2.heap[w.heap.size+1]?=some (.loop {rec .ready none with state:= .busy}):=by rw[<-hA2];exact World.putObj_heap_same hlt1
   have hD2:A2.heap[w.heap.size]?=some (.deferred (some [])):=by rw[<-hA2];exact(LA (by omega)).trans hD1
   have hm2:Mod (fun b=>T b∨b=w.heap.size∨b=w.heap.size+1) A1 A2:=by rw[<-hA2];exact(Mod.refl _ _).putObj (.inr (.inr rfl)) _
   have hk12:∀b,K b->A2.heap[b]?=A1.heap[b]?:=fun b hb=>by rw[<-hA2];exact LA (hKne b hb).2
   have hs2:A2.heap.size=A1.heap.size:=by rw[<-hA2];simp[World.putObj]
   have hS2:S k A2:=hSK k A A2 hSA (by have:=hm.size;omega) (fun b hb=>by rw[hk12 b hb];exact hm.block b (by have:=hK b hb;omega) (fun h=>h.2.2 hb))
   refine wpIn_mono (hbody _ k hk a' A2 (hI _ _ _ hi1 hm2) hS2 (hAx _ _ _ _ hax hm2) (by omega)) ?_
   have fin:∀(jump:Option Code) (W3:World) (S:Nat->Prop),Mod S A2 W3->¬S w.heap.size->¬S (w.heap.size+1)->
     (Instr.endRound (w.heap.size+1) jump).run P W3= .ok (.bool jump.isNone) (W3.putObj (w.heap.size+1) (.loop (rec (if jump.isNone then .ready else .done) jump)))/\
     (W3.putObj (w.heap.size+1) (.loop (rec (if jump.isNone then .ready else .done) jump))).heap[w.heap.size+1]?=some (.loop (rec (if jump.isNone then .ready else .done) jump))/\
     (W3.putObj (w.heap.size+1) (.loop (rec (if jump.isNone then .ready else .done) jump))).heap[w.heap.size]?=some (.deferred (some [])):=fun jump W3 S hm3 hn1 hn2=>by
    have hl3:=(hm3.block _ (by omega) hn2).trans hl2
    have hD3:=(hm3.block _ (by omega) hn1).trans hD2
    have:=run_endRound (P:=P) jump hl3
    rw[hrec]at this ⊢
    exact⟨this,World.putObj_heap_same (Array.getElem?_eq_some_iff.1 hl3).1,(LA (by omega)).trans hD3⟩
   have mp:∀(W3:World) (o:Obj),Mod (fun b=>T b∨b=w.heap.size∨b=w.heap.size+1) W3 (W3.putObj (w.heap.size+1) o):=fun W3 o=>(Mod.refl _ _).putObj (.inr (.inr rfl)) o
   have mq:∀(W3:World) (o:Obj),Mod (fun b=>b=w.heap.size∨b=w.heap.size+1) W3 (W3.putObj (w.heap.size+1) o):=fun W3 o=>(Mod.refl _ _).putObj (.inr rfl) o
   rintro e a3 W3 hp
   cases e with
   |normal=>
    obtain⟨hm3,hi3⟩:=hp
    obtain⟨hr,hl4,hD4⟩:=fin none W3 _ hm3 (fun h=>h.1 rfl) (fun h=>h.2.1 rfl)
    refine⟨_,_,hr,.inl ⟨rfl,⟨hI _ _ _ hi3 (mp _ _),hl4,hD4⟩,?_,fun b hb=>?_⟩⟩
    ·have:=hm.size;have:=hm3.size;simp[World.putObj];omega
    ·have h1:=hm.block b (by have:=hK b hb;omega) (fun h=>h.2.2 hb)
     have h2:=hk12 b hb
     have h3:=hm3.block b (by have:=hK b hb;omega) (fun h=>h.2.2 hb)
     exact(LA (hKne b hb).2).trans (h3.trans (h2.trans h1))
   |ret=>
    obtain⟨hm3,hi3⟩:=hp
    obtain⟨hr,hl4,hD4⟩:=fin (some .ret) W3 _ hm3 (fun h=>h.1 rfl) (fun h=>h.2 rfl)
    exact⟨_,_,hr,.inr ⟨rfl,.ret,hIx _ _ _ hi3 (mq _ _),hl4,hD4⟩⟩
   |exit id=>
    obtain⟨hm3,hi3⟩:=hp
    obtain⟨hr,hl4,hD4⟩:=fin (some (.exit id)) W3 _ hm3 (fun h=>h.1 rfl) (fun h=>h.2 rfl)
    exact⟨_,_,hr,.inr ⟨rfl,.exit id,hIx _ _ _ hi3 (mq _ _),hl4,hD4⟩⟩
   |goto t=>
    obtain⟨hm3,hi3⟩:=hp
    obtain⟨hr,hl4,hD4⟩:=fin (some (.goto t)) W3 _ hm3 (fun h=>h.1 rfl) (fun h=>h.2 rfl)
    exact⟨_,_,hr,.inr ⟨rfl,.goto t,hIx _ _ _ hi3 (mq _ _),hl4,hD4⟩⟩
   |panic ch=>exact hp.elim
   |outgrown=>exact hp.elim
  case behind=>
   have mp:∀(W3:World) (o:Obj),Mod (fun b=>T b∨b=w.heap.size∨b=w.heap.size+1) W3 (W3.putObj (w.heap.size+1) o):=fun W3 o=>(Mod.refl _ _).putObj (.inr (.inr rfl)) o
   have mq:∀(W3:World) (o:Obj),Mod (fun b=>b=w.heap.size∨b=w.heap.size+1) W3 (W3.putObj (w.heap.size+1) o):=fun W3 o=>(Mod.refl _ _).putObj (.inr rfl) o
   rintro e W2 ⟨⟨v,rfl⟩,(⟨⟨hi,hl,hk⟩,hE⟩|⟨c,hi,hl,hk⟩)⟩
   ·exact⟨none,_,by have:=run_endLoop (P:=P) hl (by rw[hrec];simp);rw[hrec]at this;exact this,hdone _ (hI _ _ _ hi (mp _ _)) (hEK _ _ hE (by simp[World.putObj]) (fun b hb=>LA (hKne b hb).2)) ((LA (by omega)).trans hk)⟩
   ·exact⟨some c,_,by have:=run_endLoop (P:=P) hl (by rw[hrec];simp);rw[hrec]at this;exact this,hstop c _ (hIx _ _ _ hi (mq _ _)) ((LA (by omega)).trans hk)⟩
section
open Go.Shelf
attribute [local go_sem] Oper.semAt_some
def frX (P:List Pr) (K i:Nat):Array Value:=#[.agg #[.int .i64 (um P (K+i)).key,.int .i64 (um P (K+i)).val]]
def KJ (gp pb:Nat) (A:Option Addr) (P:List Pr) (b:Nat):Prop:=b=gp∨b=pb∨∃a,P≠[]/\A=some a/\b=a.block
def KM (gp:Nat) (v:Int) (A:Option Addr) (P:List Pr) (c K i:Nat) (W:World):Prop:=Blk W gp 82 (jd (sF v P (K+i+1)).ver (sF v P (K+i+1)).on (sF v P (K+i+1)).key A P c)
def KR (gp:Nat) (v:Int) (A:Option Addr) (P:List Pr) (c K:Nat) (W:World):Prop:=K< P.length->Blk W gp 82 (jd v false 0 A P c)
theorem dB {w w':World} {g:Nat} {ty:TypeId} {row:Array Value} (h:Blk w g ty row) (he:w'.heap[g]?=w.heap[g]?):Blk w' g ty row:=he.trans h
theorem I6 {w w':World} {A:Option Addr} {xs:List Value} (h:Sl w A xs) (hs:w.heap.size<=w'.heap.size) (he:∀a,A=some a->w'.heap[a.block]?=w.heap[a.block]?):Sl w' A xs:=by
 rcases h with h|⟨b,off,hA,hlt,hc⟩
 ·exact .inl h
 ·exact .inr ⟨b,off,hA,Nat.lt_of_lt_of_le hlt hs,fun j u hu=>(World.cell?_of_block (a:=⟨b,off+j,none⟩) (he ⟨b,off,none⟩ hA)).trans (hc j u hu)⟩
structure FrAt (w:World) (gp pb:Nat) (v:Int) (A:Option Addr) (P:List Pr) (c:Nat) (x1 x2:Value):Prop where
 box:Blk w pb 77 #[.pointer (some ⟨gp,0,none⟩)]
 pl:Blk w gp 82 #[.int .u64 v,x1,x2,.slice A P.length c]
 sl:Sl w A (P.flatMap Pr.cells)
theorem FrAt.of {w w':World} {gp pb:Nat} {v:Int} {A:Option Addr} {P:List Pr} {c:Nat} {x1 x2:Value} (h:FrAt w gp pb v A P c x1 x2) (hs:w.heap.size<=w'.heap.size) (he:∀b,KJ gp pb A P b->w'.heap[b]?=w.heap[b]?):FrAt w' gp pb v A P c x1 x2:=
 ⟨dB h.box (he _ (.inr (.inl rfl))),dB h.pl (he _ (.inl rfl)),by
  by_cases hP:P=[]
  ·subst hP;exact .inl rfl
  ·exact I6 h.sl hs (fun a ha=>he _ (.inr (.inr ⟨a,hP,ha,rfl⟩)))⟩
theorem FrAt.below {w w':World} {gp pb:Nat} {v:Int} {A:Option Addr} {P:List Pr} {c:Nat} {x1 x2:Value} (h:FrAt w gp pb v A P c x1 x2) (hb:Below w.heap.size w w'):FrAt w' gp pb v A P c x1 x2:=⟨h.box.below hb h.box.lt,h.pl.below hb h.pl.lt,h.sl.below hb⟩
theorem jh {P:Prop} (h:P:=by
  iterate 8 apply Exists.intro
  refine⟨rfl,?_,?_,?_,?_,?_,?_,?_,?_,?_,?_,?_,?_,?_,?_,?_,?_⟩
  ·first|exact HW.out|exact fun _=>rfl|(intro h;refine absurd h ?_;simp;done;done)
  ·first|exact HY.out|exact fun _=>hb1|exact(fun h=>absurd (show L 6=true by simpa using h) (by rw[hlast];exact Ld))
  ·first|exact F0.out|exact fun _=>rfl
  ·first|exact F1.out|exact fun _=>rfl
  ·first|exact F2.out|exact fun _=>rfl
  ·first|exact F3.out|exact fun _=>rfl
  ·first|exact F4.out|exact fun _=>rfl
  ·first|exact F5.out|exact fun _=>rfl
  ·first|exact F6.out|exact fun _=>rfl
  ·first|exact F7.out|exact fun _=>rfl
  ·first|(intro h;have hh:=C2.out (by simpa using h);simp[hh];done)|(intro _;simp[hl1];done)
  ·first|(intro h;have hh:=C3.out (by simpa using h);simp[hh];done)|(intro _;simp[hl2];done)
  ·first|(intro h;have hh:=C4.out (by simpa using h);simp[hh];done)|(intro _;simp[hl3];done)
  ·first|(intro h;have hh:=C5.out (by simpa using h);simp[hh];done)|(intro _;simp[hl4];done)
  ·first|(intro h;have hh:=C6.out (by simpa using h);simp[hh];done)|(intro _;simp[hl0,hl5];done)
  ·first|(intro h;have hh:=C7.out (by simpa using h);simp[hh];done)|(intro _;simp[hl6];done)):P:=h
theorem DY (gp pb:Nat) (v:Int) (on:Bool) (key:Int) (A:Option Addr) (P:List Pr) (c K:Nat) (w:World) (hf:FrAt w gp pb v A P c (.bool on) (.int .i64 key)) (hlc:P.length<=c) (hl:P.length<=16384) (hr:Ris P) (hne:∀a,A=some a->a.block≠gp) (hpb:pb≠gp) (hK:bel P key=K):
  Cq Fence.wide prog 55 #[.pointer (some ⟨pb,0,none⟩)] (P.length-K) (frX P K) (KJ gp pb A P) (KM gp v A P c K) (KR gp v A P c K) (fun b=>b=gp) w:=by
 intro y I X W0 hsz hKp hI hX hY h0
 have hfW:=hf.of hsz hKp
 have hdd:∀k:Nat,(Fence.wide.depth.isSome=true->1<=k):=fun k h=>by cases h
 have hwf:∀f,Fence.wide.fn f:=fun _=>trivial
 have hdp:Fence.wide.depth=none:=rfl
 have hro:Fence.wide.round=none:=rfl
 have HH:=Lc (Lr hI (Lr hX hY))
 have hrk:=kE gp v on key A P c key W0.drew (hfW.pl.drewN 1) (hfW.sl.below (Lg _ _).drew) hlc hl hr
 rw[hK]at hrk
 have hKl:K<=P.length:=by rw[<-hK];exact mU P key
 have HRK:=Lc hrk
 have HF0:=Lc (hfW.below (Lg _ _).drew)
 have HI0:=Lc (hI 0 W0 W0.drew h0 (Mod.of_ext (Lg _ _).drew))
 have HNE:=Lc (Lr hne hpb)
 have HN:=Lc (Lr hKl (Lr hl hlc))
 clear hI hX hY hKp hf hfW hrk hK hKl hlc hl hr hne hpb h0 hsz
 refine callsIn_of_wp func55 rfl (hwf _) ?_ hro
 simp only[ntmps55,LW,List.length_cons,List.length_nil,Me,Mf,Array.replicate_succ,Array.replicate_zero,M3,MP,Ml,M4]
 gi_wp2
 refine fK (by kernel_rfl) (by kernel_rfl) (fun L a W=>∃(t7 t8 t9 t10 t11 t12 t13 t3:Value),a=⟨#[.func (.yield y) #[] #[],.pointer (some ⟨pb,0,none⟩),undef,t3,undef,undef,undef,t7,t8,t9,t10,t11,t12,t13,undef,undef,undef,undef,undef,undef,undef,undef,undef,undef,undef,undef,undef,undef,undef,undef,undef,undef,undef,undef,undef,undef,undef,undef,undef,undef,undef,undef,undef,undef,undef,undef,undef,undef,undef,undef,undef],[]⟩/\(L 6=false->W=W0.drew)/\(L 6=true->Below W0.drew.heap.size W0.drew W)/\(L 0=true->t7= .pointer (some ⟨gp,0,none⟩))/\(L 1=true->t8= .pointer (some ⟨gp,0,none⟩))/\(L 2=true->t9= .pointer (some ⟨gp,0,none⟩))/\(L 3=true->t10= .pointer (some ⟨gp,0,none⟩))/\(L 4=true->t11= .pointer (some ⟨gp,2,none⟩))/\(L 5=true->t12= .int .i64 key)/\(L 6=true->t13= .int .i64 (K:Nat))/\(L 7=true->t3= .int .i64 (K:Nat))/\(L 2=true->L 1=true)/\(L 3=true->L 2=true)/\(L 4=true->L 3=true)/\(L 5=true->L 4=true)/\(L 6=true->L 0=true/\L 5=true)/\(L 7=true->L 6=true)) ?h0 ?hstep ?hend
 case h0=>exact⟨undef,undef,undef,undef,undef,undef,undef,undef,rfl,fun _=>rfl,fun h=>absurd h Ld,fun h=>absurd h Ld,fun h=>absurd h Ld,fun h=>absurd h Ld,fun h=>absurd h Ld,fun h=>absurd h Ld,fun h=>absurd h Ld,fun h=>absurd h Ld,fun h=>absurd h Ld,fun h=>absurd h Ld,fun h=>absurd h Ld,fun h=>absurd h Ld,fun h=>absurd h Ld,fun h=>absurd h Ld,fun h=>absurd h Ld⟩
 case hend=>
  rintro L a W hall ⟨t7,t8,t9,t10,t11,t12,t13,t3,rfl,hw,hy,f0,f1,f2,f3,f4,f5,f6,f7,c2,c3,c4,c5,c6,c7⟩
  have z0:=f0 (hall 0 (by decide))
  have z1:=f1 (hall 1 (by decide))
  have z2:=f2 (hall 2 (by decide))
  have z3:=f3 (hall 3 (by decide))
  have z4:=f4 (hall 4 (by decide))
  have z5:=f5 (hall 5 (by decide))
  have z6:=f6 (hall 6 (by decide))
  have z7:=f7 (hall 7 (by decide))
  have zy:=hy (hall 6 (by decide))
  clear hall hw hy f0 f1 f2 f3 f4 f5 f6 f7 c2 c3 c4 c5 c6 c7
  obtain rfl:=z7
  have HF1:=Lc (HF0.out.below zy)
  have hi1:I 0 W:=HH.out.1 0 W0.drew W HI0.out (Mod.of_ext zy)
  clear z0 z1 z2 z3 z4 z5 z6 zy
  gi_wp2
  gi_loopw [3] (fun e wr=>∃(i:Nat) (o:Bool) (k:Int),i<=P.length-K/\e= .int .i64 ((K+i:Nat):Int)/\I i wr/\Hid (FrAt wr gp pb v A P c (.bool o) (.int .i64 k))/\Hid (i=P.length-K->K< P.length->o=false/\k=0)) (fun e _=>P.length-(intOf e).toNat)
  case atStart=>exact⟨0,on,key,Nat.zero_le _,rfl,hi1,HF1.out,fun h1 h2=>absurd h2 (by omega)⟩
  case round=>
   clear hi1
   obtain⟨i,o,k,hi,rfl,hik,hfr,hend⟩:=hrel
   have b0:wr.cell? ⟨pb,0,none⟩=some (.pointer (some ⟨gp,0,none⟩)):=hfr.out.box.cell 0
   have p3:wr.cell? ⟨gp,3,none⟩=some (.slice A P.length c):=hfr.out.pl.cell 3
   obtain⟨j,hj⟩:∃j,K+i=j:=⟨_,rfl⟩
   rw[hj]
   by_cases hlt:i< P.length-K
   ·have hjl:j< P.length:=by omega
    obtain⟨b,off,hA,hbl,c1,c2⟩:=hfr.out.sl.prB (Lg _ wr) j hjl
    obtain⟨p,hp⟩:∃p,P[j]'hjl=p:=⟨_,rfl⟩
    rw[hp]at c1 c2
    rw[hA]at p3
    have HX:=Lc (show frX P K i=#[.agg #[.int .i64 p.key,.int .i64 p.val]]by unfold frX um;rw[hj,LJ,Lu hjl,<-hp];rfl)
    have HI:=Lc hik
    have HJ:=Lc (Lr hj (Lr hlt hjl))
    have HA:=Lc hA
    have i0:(0:Int)<=(j:Int):=by omega
    have i1:(j:Int)< (P.length:Int):=by omega
    have hwr:IntKind.i64.wrap ((j:Int)+1)=((j+1:Nat):Int):=by rw[IntWalk.i64_in _ (by have:=HN.out;omega)];omega
    have HWR:=Lc hwr
    have lp:gp< wr.heap.size:=hfr.out.pl.lt
    have lb:pb< wr.heap.size:=hfr.out.box.lt
    clear hik hj hlt hA hi hp hend
    obtain⟨W4,hW4⟩:∃W4,wr.alloc (.cells #[.int .i64 p.key,.int .i64 p.val] 55)=W4:=⟨_,rfl⟩
    have hb4:Below wr.heap.size wr W4:=by rw[<-hW4];exact(Lg _ _).alloc (Lf _) _
    have bx4:Blk W4 wr.heap.size 55 #[.int .i64 p.key,.int .i64 p.val]:=by rw[<-hW4];exact Blk.new _ _ _
    have HF4:=Lc (hfr.out.below hb4)
    have HB4:=Lc hb4
    have HX4:=Lc bx4
    have HW4:=Lc hW4
    clear hb4 bx4 hW4 hjl
    by_cases hyes:j+1< P.length
    ·have hto:=vX gp v o k A P c (j+1) W4 HF4.out.pl HF4.out.sl hyes HNE.out.1
     obtain⟨kk,hkk⟩:∃kk,(P[j+1]'hyes).key=kk:=⟨_,rfl⟩
     rw[hkk]at hto
     have HTO:=Lc hto
     have hsk:sF v P (K+i+1)=⟨v,true,kk⟩:=by unfold sF;rw[show K+i+1=j+1 by have:=HJ.out.1;omega,if_pos hyes,getElem!_pos P (j+1) hyes,hkk]
     have HYY:=Lc (show∀w1,Mod (fun b=>b=gp) W4 w1->Blk w1 gp 82 (jd v true kk A P c)->FrAt (w1.alloc (.cells #[.int .u64 v,.bool true,.int .i64 kk] 44)) gp pb v A P c (.bool true) (.int .i64 kk)/\YieldAt Fence.wide 0 prog y #[.agg #[.int .i64 p.key,.int .i64 p.val]] (w1.alloc (.cells #[.int .u64 v,.bool true,.int .i64 kk] 44)) (fun e B=>(e= .returned (.bool true)/\I (i+1) B/\(w1.alloc (.cells #[.int .u64 v,.bool true,.int .i64 kk] 44)).heap.size<=B.heap.size/\∀b,KJ gp pb A P b->B.heap[b]?=(w1.alloc (.cells #[.int .u64 v,.bool true,.int .i64 kk] 44)).heap[b]?)∨(e= .returned (.bool false)/\X B))from fun w1 hm hb=>by
      refine⟨⟨(HF4.out.box.mod hm HNE.out.2).alloc _,hb.alloc _,(HF4.out.sl.mod hm HNE.out.1).below ((Lg _ _).alloc (Lf _) _)⟩,?_⟩
      have hyy:=HH.out.2.2 i (w1.alloc (.cells #[.int .u64 v,.bool true,.int .i64 kk] 44)) HJ.out.2.1 (HH.out.1 i W4 _ (HH.out.1 i wr W4 HI.out (Mod.of_ext HB4.out)) (hm.ext ((Lg _ _).alloc (Lf _) _))) (by unfold KM;rw[hsk];exact hb.alloc _)
      rw[HX.out]at hyy
      exact hyy)
     clear hto hsk hkk
     gi_wp2_with ((try rw[HW4.out]);(try first|refine⟨hdp,?_⟩|refine⟨hdd _,?_⟩);gi_at_call 44;refine(callsIn_wide.2 HTO.out).mono ?_;rintro e w1 ⟨rfl,hm1,hk1⟩;have hx0:w1.cell? ⟨wr.heap.size,0,none⟩=some (.int .i64 p.key):=(HX4.out.mod hm1 (fun q=>Nat.ne_of_gt lp q)).cell 0;have hx1:w1.cell? ⟨wr.heap.size,1,none⟩=some (.int .i64 p.val):=(HX4.out.mod hm1 (fun q=>Nat.ne_of_gt lp q)).cell 1;have hxl:wr.heap.size< w1.heap.size:=Nat.lt_of_lt_of_le HX4.out.lt hm1.size;obtain⟨hf7,fn,tmps,assign,body,hy,hR⟩:=HYY.out w1 hm1 hk1;have HRR:=Lc hR;have HF7:=Lc hf7;clear hR hf7 hm1 hk1)
     refine HRR.out.mono ?_
     clear HRR hy
     intro e W2 hpost
     rcases hpost with⟨rfl,hi2,hs2,hk2⟩|⟨rfl,hx2⟩
     ·have HF2:=Lc (HF7.out.of hs2 hk2)
      have HI2:=Lc hi2
      clear hi2 hs2 hk2 hx0 hx1 hxl
      gi_wp2
      go_roundw
      case rel=>exact⟨i+1,true,kk,by have:=HJ.out;omega,by have:=HJ.out.1;first|(show _=_;go_num)|(congr 1;omega),HI2.out,HF2.out,fun h1 h2=>absurd h1 (by have:=HJ.out;omega)⟩
      case measure=>have:=HJ.out;simp[intOf];omega
     ·have HX2:=Lc hx2
      clear hx2 hx0 hx1 hxl
      gi_wp2
      first|refine Li (Ms rfl _ _ _) rfl ?_|refine Nj (Ms rfl _ _ _) rfl ?_
      exact⟨⟨_,rfl⟩,.inr HX2.out⟩
    ·have hto:=Cj gp v o k A P c ((j+1:Nat):Int) W4 HF4.out.pl (by omega)
     have HTO:=Lc hto
     have HNO:=Lc hyes
     clear hto hyes
     gi_wp2_with ((try rw[HW4.out]);(try first|refine⟨hdp,?_⟩|refine⟨hdd _,?_⟩);gi_at_call 44;refine(callsIn_wide.2 HTO.out).mono ?_;rintro e w1 ⟨rfl,hb1⟩;have hx:=HX4.out.below hb1 HX4.out.lt;have hf:=HF4.out.below hb1;have hx0:w1.cell? ⟨wr.heap.size,0,none⟩=some (.int .i64 p.key):=hx.cell 0;have hx1:w1.cell? ⟨wr.heap.size,1,none⟩=some (.int .i64 p.val):=hx.cell 1;have hxl:wr.heap.size< w1.heap.size:=hx.lt;have hgl:gp< w1.heap.size:=hf.pl.lt;have hpl:pb< w1.heap.size:=hf.box.lt;have hg0:w1.cell? ⟨pb,0,none⟩=some (.pointer (some ⟨gp,0,none⟩)):=hf.box.cell 0;have hg1:w1.cell? ⟨gp,1,none⟩=some (.bool o):=hf.pl.cell 1;have hg2:w1.cell? ⟨gp,2,none⟩=some (.int .i64 k):=hf.pl.cell 2;have hg3:w1.frozen? ⟨gp,1,none⟩=false:=hf.pl.frozen 1;have hg4:w1.frozen? ⟨gp,2,none⟩=false:=hf.pl.frozen 2;have hg5:wr.heap.size≠gp:=Nat.ne_of_gt lp;have hg6:pb≠gp:=HNE.out.2;have HF1:=Lc hf;have HX1:=Lc hx;have HB1:=Lc hb1;clear hf hx hb1)
     gi_region
     obtain⟨W7,hW7⟩:∃W7,(((w1.setCell ⟨gp,1,none⟩ (.bool false)).setCell ⟨gp,2,none⟩ (.int .i64 0)).alloc (.cells #[.int .u64 lF.ver,.bool lF.on,.int .i64 lF.key] 44)).drew=W7:=⟨_,rfl⟩
     have hm7:Mod (fun b=>b=gp) w1 W7:=by
      rw[<-hW7]
      exact((((Mod.refl (fun b=>b=gp) w1).setCell (p:=⟨gp,1,none⟩) rfl _).setCell (p:=⟨gp,2,none⟩) rfl _).ext ((Lg _ _).alloc (Lf _) _)).drew
     have hk7:Blk W7 gp 82 (jd v false 0 A P c):=by
      rw[<-hW7]
      have hq:=((HF1.out.pl.set_ 1 (.bool false)).set_ 2 (.int .i64 0)).alloc (.cells #[.int .u64 lF.ver,.bool lF.on,.int .i64 lF.key] 44)
      exact Blk.drewN (by simpa using hq) 1
     rw[hW7]
     clear hW7 hx0 hx1 hxl hgl hpl hg0 hg1 hg2 hg3 hg4 hg5 hg6
     have hsk:sF v P (K+i+1)=⟨v,false,0⟩:=by unfold sF;rw[show K+i+1=j+1 by have:=HJ.out.1;omega,if_neg HNO.out]
     have hf7:FrAt W7 gp pb v A P c (.bool false) (.int .i64 0):=⟨HF1.out.box.mod hm7 HNE.out.2,hk7,HF1.out.sl.mod hm7 HNE.out.1⟩
     have hyy:=HH.out.2.2 i W7 HJ.out.2.1 (HH.out.1 i w1 _ (HH.out.1 i W4 w1 (HH.out.1 i wr W4 HI.out (Mod.of_ext HB4.out)) (Mod.of_ext HB1.out)) hm7) (by unfold KM;rw[hsk];exact hk7)
     rw[HX.out]at hyy
     obtain⟨fn,tmps,assign,body,hy,hR⟩:=hyy
     have HRR:=Lc hR
     have HF7:=Lc hf7
     have hx7:=HX1.out.mod hm7 (fun q=>Nat.ne_of_gt lp q)
     have hx0:W7.cell? ⟨wr.heap.size,0,none⟩=some (.int .i64 p.key):=hx7.cell 0
     have hx1:W7.cell? ⟨wr.heap.size,1,none⟩=some (.int .i64 p.val):=hx7.cell 1
     clear hR hf7 hm7 hk7 hsk hx7
     gi_wp2
     refine HRR.out.mono ?_
     clear HRR hy
     intro e W2 hpost
     rcases hpost with⟨rfl,hi2,hs2,hk2⟩|⟨rfl,hx2⟩
     ·have HF2:=Lc (HF7.out.of hs2 hk2)
      have HI2:=Lc hi2
      clear hi2 hs2 hk2 hx0 hx1
      gi_wp2
      go_roundw
      case rel=>exact⟨i+1,false,0,by have:=HJ.out;omega,by have:=HJ.out.1;first|(show _=_;go_num)|(congr 1;omega),HI2.out,HF2.out,fun h1 h2=>⟨rfl,rfl⟩⟩
      case measure=>have:=HJ.out;simp[intOf];omega
     ·have HX2:=Lc hx2
      clear hx2 hx0 hx1
      gi_wp2
      first|refine Li (Ms rfl _ _ _) rfl ?_|refine Nj (Ms rfl _ _ _) rfl ?_
      exact⟨⟨_,rfl⟩,.inr HX2.out⟩
   ·have hin:i=P.length-K:=by omega
    have i1:¬(j:Int)< (P.length:Int):=by omega
    have HI2:=Lc hik
    have HEE:=Lc (show KR gp v A P c K wr from fun hKl=>by
     obtain⟨rfl,rfl⟩:=hend.out hin hKl
     exact hfr.out.pl)
    rw[hin]at HI2
    clear hik hj hi hend hin
    gi_wp2
    first|refine Li (Ms rfl _ _ _) rfl ?_|refine Nj (Ms rfl _ _ _) rfl ?_
    exact⟨⟨_,rfl⟩,.inl ⟨HI2.out,HEE.out⟩⟩
 case hstep=>
  rintro L a W i o ho hLi hdep ⟨t7,t8,t9,t10,t11,t12,t13,t3,rfl,hw,hy,f0,f1,f2,f3,f4,f5,f6,f7,c2,c3,c4,c5,c6,c7⟩
  have HW:=Lc hw
  have HY:=Lc hy
  have F0:=Lc f0
  have F1:=Lc f1
  have F2:=Lc f2
  have F3:=Lc f3
  have F4:=Lc f4
  have F5:=Lc f5
  have F6:=Lc f6
  have F7:=Lc f7
  have C2:=Lc c2
  have C3:=Lc c3
  have C4:=Lc c4
  have C5:=Lc c5
  have C6:=Lc c6
  have C7:=Lc c7
  clear hw hy f0 f1 f2 f3 f4 f5 f6 f7 c2 c3 c4 c5 c6 c7
  have HLi:=Lc hLi
  clear hLi
  match i,ho with
  |0,ho=>
   obtain rfl:=Le ho
   clear hdep
   have hlast:L 6=false:=by
    cases h:L 6 with
    |false=>rfl
    |true=>exact absurd ((C6.out h).1) (by rw[HLi.out];exact Ld)
   have hWA:=HW.out hlast
   subst hWA
   refine LU rfl (fun K1 hK1=>?_)
   have hK:=Lc hK1
   clear hK1
   have q:=HF0.out.box.cell 0
   simp only[LB,Lm]at q
   gi_wp2
   refine hK.out _ _ ?_;exact jh
  |1,ho=>
   obtain rfl:=Le ho
   clear hdep
   have hlast:L 6=false:=by
    cases h:L 6 with
    |false=>rfl
    |true=>exact absurd ((C2.out (C3.out (C4.out (C5.out (C6.out h).2))))) (by rw[HLi.out];exact Ld)
   have hWA:=HW.out hlast
   subst hWA
   refine LU rfl (fun K1 hK1=>?_)
   have hK:=Lc hK1
   clear hK1
   have q:=HF0.out.box.cell 0
   simp only[LB,Lm]at q
   gi_wp2
   refine hK.out _ _ ?_;exact jh
  |2,ho=>
   obtain rfl:=Le ho
   have hl1:=hdep ⟨1,.data⟩ (by simp) rfl
   obtain rfl:=F1.out hl1
   clear hdep
   refine LU rfl (fun K1 hK1=>?_)
   have hK:=Lc hK1
   clear hK1
   gi_wp2
   refine hK.out _ _ ?_;exact jh
  |3,ho=>
   obtain rfl:=Le ho
   have hl2:=hdep ⟨2,.data⟩ (by simp) rfl
   obtain rfl:=F2.out hl2
   clear hdep
   refine LU rfl (fun K1 hK1=>?_)
   have hK:=Lc hK1
   clear hK1
   gi_wp2
   refine hK.out _ _ ?_;exact jh
  |4,ho=>
   obtain rfl:=Le ho
   have hl3:=hdep ⟨3,.data⟩ (by simp) rfl
   obtain rfl:=F3.out hl3
   clear hdep
   refine LU rfl (fun K1 hK1=>?_)
   have hK:=Lc hK1
   clear hK1
   gi_wp2
   refine hK.out _ _ ?_;exact jh
  |5,ho=>
   obtain rfl:=Le ho
   have hl4:=hdep ⟨4,.data⟩ (by simp) rfl
   obtain rfl:=F4.out hl4
   clear hdep
   have hlast:L 6=false:=by
    cases h:L 6 with
    |false=>rfl
    |true=>exact absurd ((C6.out h).2) (by rw[HLi.out];exact Ld)
   have hWA:=HW.out hlast
   subst hWA
   refine LU rfl (fun K1 hK1=>?_)
   have hK:=Lc hK1
   clear hK1
   have q:=HF0.out.pl.cell 2
   simp only[LB,Lm,Ll]at q
   gi_wp2
   refine hK.out _ _ ?_;exact jh
  |6,ho=>
   obtain rfl:=Le ho
   have hl0:=hdep ⟨0,.data⟩ (by simp) rfl
   obtain rfl:=F0.out hl0
   have hl5:=hdep ⟨5,.data⟩ (by simp) rfl
   obtain rfl:=F5.out hl5
   clear hdep
   have hlast:=HLi.out
   have hWA:=HW.out hlast
   subst hWA
   refine LU rfl (fun K1 hK1=>?_)
   have hK:=Lc hK1
   clear hK1
   gi_wp2_with ((try first|refine⟨hdp,?_⟩|refine⟨hdd _,?_⟩);gi_at_call 30;refine(callsIn_wide.2 HRK.out).mono ?_;rintro e w1 ⟨rfl,hb1⟩)
   refine hK.out _ _ ?_;exact jh
  |7,ho=>
   obtain rfl:=Le ho
   have hl6:=hdep ⟨6,.data⟩ (by simp) rfl
   obtain rfl:=F6.out hl6
   clear hdep
   refine LU rfl (fun K1 hK1=>?_)
   have hK:=Lc hK1
   clear hK1
   gi_wp2
   refine hK.out _ _ ?_;exact jh
end
section
open Go.Shelf
theorem gD {F:Fence} {n:Nat} {P:Program} {op:Oper} {a:Act} {w:World} {K:Act->World->Prop} {Q:Exit->Act->World->Prop} (ty:TypeId) (x:Operand) (ho:op.op= .load ty x)
  (b o:Nat) (hx:a.eval x= .pointer (some ⟨b,o,none⟩)) (cs:List Value) (d:TypeDesc) (hc:w.rangeAt b o cs)
  (hu:P.underlying ty=some d) (hd:d.isRow=true) (hi:(P.info? ty).map (·.size)=some cs.length)
  (h:K (a.put op.dst (.agg cs.toArray)) w):op.wpIn F n P a w K Q:=by
 unfold Oper.wpIn
 refine⟨?_,?_⟩
 ·intro f hf;simp[Oper.about,ho]at hf
 ·rw[Oper.semAt_plain F _ _ (by rw[ho];intro c hc';cases hc')]
  unfold execOp
  simp only[ho,hx,Instr.loadAt,Instr.sureAddr,Sem.run_bind,Sem.run_pure,Result.andThen_ok,run_loadVar_mid w b o ty cs d hc hu hd hi]
  exact h
theorem fE {F:Fence} {n:Nat} {P:Program} {ops:Array Oper} {rest:List Oper} {op:Oper} {a:Act} {w:World} {Q:Exit->Act->World->Prop} (hgd:op.guard=none) (ty:TypeId) (x:Operand) (ho:op.op= .load ty x)
  (b o:Nat) (hx:a.eval x= .pointer (some ⟨b,o,none⟩)) (cs:List Value) (d:TypeDesc) (hc:w.rangeAt b o cs)
  (hu:P.underlying ty=some d) (hd:d.isRow=true) (hi:(P.info? ty).map (·.size)=some cs.length)
  (h:wpListIn F n P ops Q rest (a.put op.dst (.agg cs.toArray)) w):wpListIn F n P ops Q (op::rest) a w:=
 wpListIn_plain hgd fun _ hK=>gD ty x ho b o hx cs d hc hu hd hi (hK _ _ h)
theorem wu {F:Fence} {P:Program} {fn:Func} {R:Ending->World->Prop} {tmps:Array Value} {w:World} {v:Value}
  (hr:(results fn tmps).run P w= .ok v w) (hR:R (.returned v) w):bodyPostM F 0 P fn R .ret {tmps:=tmps,defers:=[]} w:=⟨_,hr,hR⟩
theorem Dl (gp:Nat) (w:World):Calls prog 31 #[.pointer (some ⟨gp,0,none⟩)] w fun r w'=>r= .returned (.func (.func 55) #[] #[.pointer (some ⟨w.heap.size,0,none⟩)])/\Blk w' w.heap.size 77 #[.pointer (some ⟨gp,0,none⟩)]/\Below w.heap.size w w':=by
 have hmf:∀(fn:Fn) (first cap:Array Value) (w:World),(Instr.makeFunc fn first cap).run prog w= .ok (.func fn first cap) w:=fun _ _ _ _=>rfl
 go_enter func31,ntmps31
 go_wp2_with fail
 go_ret
 exact⟨rfl,Blk.new _ _ _,(Lg _ _).alloc (Lf _) _⟩
theorem FJ {gp pb:Nat} {v:Int} {A:Option Addr} {P:List Pr} {c K:Nat}:∀k B C,KM gp v A P c K k B->B.heap.size<=C.heap.size->(∀b,KJ gp pb A P b->C.heap[b]?=B.heap[b]?)->KM gp v A P c K k C:=fun _ _ _ h _ he=>dB h (he _ (.inl rfl))
theorem FV {gp pb:Nat} {v:Int} {A:Option Addr} {P:List Pr} {c K:Nat}:∀B C,KR gp v A P c K B->B.heap.size<=C.heap.size->(∀b,KJ gp pb A P b->C.heap[b]?=B.heap[b]?)->KR gp v A P c K C:=fun _ _ h _ he hk=>dB (h hk) (he _ (.inl rfl))
end
section
open Go.Shelf
attribute [local go_sem] Oper.semAt_some
theorem DL (m:Mv) (cu:Cu) (w:World) (hs:MvAt w m) (ho:MvOk m) (hcp:m.ps.cs.length<=m.ps.cc) (hcb:m.bs.cs.length<=m.bs.cc) (hz:cO m cu≠0):
  Calls prog 21 #[.agg m.row,.agg cu.row] w fun r w'=>r= .returned (.tuple #[.agg #[.int .i64 0,.int .i64 0],.int .i64 (cO m cu)])/\Below w.heap.size w w':=by
 obtain⟨ver,on,key⟩:=cu
 obtain⟨W0,hW0⟩:∃W,((((w.alloc (.cells m.row 42)).alloc (.cells #[.int .u64 ver,.bool on,.int .i64 key] 44)).alloc (.cells #[.int .i64 0,.int .i64 0] 55)).alloc (.cells #[.int .i64 0] 48))=W:=⟨_,rfl⟩
 have hb0:Below w.heap.size w W0:=by rw[<-hW0];exact(((((Lg _ _).alloc (by first|exact Lf _|(simp;done)|(simp;omega)) _).alloc (by first|exact Lf _|(simp;done)|(simp;omega)) _).alloc (by first|exact Lf _|(simp;done)|(simp;omega)) _).alloc (by first|exact Lf _|(simp;done)|(simp;omega)) _)
 have bq0:Blk W0 w.heap.size 42 m.row:=by rw[<-hW0];exact((((Blk.new _ _ _).alloc _).alloc _).alloc _)
 have HQ0:=Lc bq0
 have bq1:Blk W0 (w.heap.size+1) 44 #[.int .u64 ver,.bool on,.int .i64 key]:=by rw[<-hW0];exact(((aj (by simp)).alloc _).alloc _)
 have HQ1:=Lc bq1
 have bq2:Blk W0 (w.heap.size+2) 55 #[.int .i64 0,.int .i64 0]:=by rw[<-hW0];exact((aj (by simp)).alloc _)
 have HQ2:=Lc bq2
 have bq3:Blk W0 (w.heap.size+3) 48 #[.int .i64 0]:=by rw[<-hW0];exact(aj (by simp))
 have HQ3:=Lc bq3
 have HW0:=Lc hW0
 have HB0:=Lc hb0
 clear hW0 hb0 bq0 bq1 bq2 bq3
 have hin:=FU m ⟨ver,on,key⟩ W0 (hs.below HB0.out) ho hcp hcb hz
 obtain⟨Z,hZ⟩:∃Z,cO m ⟨ver,on,key⟩=Z:=⟨_,rfl⟩
 rw[hZ]at hin hz ⊢
 clear hZ
 have a0:=HQ1.out.cell
 have HIN:=Lc (hin)
 clear hin hs ho hcp hcb
 refine df (_F:=Fence.wide) ?_
 have hdd:∀k:Nat,(Fence.wide.depth.isSome=true->1<=k):=fun k h=>by cases h
 have hwf:∀f,Fence.wide.fn f:=fun _=>trivial
 have hdp:Fence.wide.depth=none:=rfl
 have hro:Fence.wide.round=none:=rfl
 refine Nv func21 rfl (hwf _) ?_ hro
 simp only[ntmps21,LW,List.length_cons,List.length_nil,Me,Mf,Array.replicate_succ,Array.replicate_zero,M3,MP,Ml,M4]
 try dsimp only[]
 repeat (first|rw[HW0.out]|refine fE rfl 42 (.tmp 2) rfl w.heap.size 0 rfl _ _ (ae HQ0.out 0 46 rfl) underlying42 rfl af ?_|refine gD 42 (.tmp 2) rfl w.heap.size 0 rfl _ _ (ae HQ0.out 0 46 rfl) underlying42 rfl af ?_|go_values|gi_guarded|gi_step|gi_upon)
 gi_wp2_with ((try first|refine⟨hdp,?_⟩|refine⟨hdd _,?_⟩);gi_at_call 29;refine(callsIn_wide.2 HIN.out).mono ?_;rintro e w1 ⟨rfl,hb1⟩;have HB1:=Lc (aa HB0.out hb1);have HQ21:=Lc (HQ2.out.below hb1 HQ2.out.lt);have HQ31:=Lc (HQ3.out.below hb1 HQ3.out.lt);clear hb1;have d0:w1.cell? ⟨(w.heap.size+2),0,none⟩=some (.int .i64 0):=HQ21.out.cell 0;have d1:w1.cell? ⟨(w.heap.size+2),1,none⟩=some (.int .i64 0):=HQ21.out.cell 1;have k0:w1.cell? ⟨(w.heap.size+3),0,none⟩=some (.int .i64 0):=HQ31.out.cell 0;have f0:w1.frozen? ⟨(w.heap.size+2),0,none⟩=false:=HQ21.out.frozen 0;have f1:w1.frozen? ⟨(w.heap.size+2),1,none⟩=false:=HQ21.out.frozen 1;have fk0:w1.frozen? ⟨(w.heap.size+3),0,none⟩=false:=HQ31.out.frozen 0)
 have hR:=Lc ((HQ21.out.set2 (.int .i64 0) (.int .i64 0)).far (p:=⟨(w.heap.size+3),0,none⟩) (by show(w.heap.size+2)≠(w.heap.size+3);omega) (.int .i64 Z))
 have hE:=Lc (((HQ31.out.far (p:=⟨(w.heap.size+2),0,none⟩) (by show(w.heap.size+3)≠(w.heap.size+2);omega) (.int .i64 0)).far (p:=⟨(w.heap.size+2),1,none⟩) (by show(w.heap.size+3)≠(w.heap.size+2);omega) (.int .i64 0)).set_ 0 (.int .i64 Z))
 have e0:=hR.out.cell 0
 have e1:=hR.out.cell 1
 have e2:=hE.out.cell 0
 simp only[LB,Lm,Ll,List.setIfInBounds_toArray,List.set_cons_zero]at e0 e1 e2
 refine wu (v:= .tuple #[.agg #[.int .i64 0,.int .i64 0],.int .i64 Z]) (by simp[results,results21,go_sem,e0,e1,e2]) ?_
 exact⟨rfl,((HB1.out.setCell (p:=⟨(w.heap.size+2),0,none⟩) (by show w.heap.size<=(w.heap.size+2);omega) _).setCell (p:=⟨(w.heap.size+2),1,none⟩) (by show w.heap.size<=(w.heap.size+2);omega) _).setCell (p:=⟨(w.heap.size+3),0,none⟩) (by show w.heap.size<=(w.heap.size+3);omega) _⟩
end
section
open Go.Shelf
attribute [local go_sem] Oper.semAt_some
theorem AP (m:Mv) (cu:Cu) (w:World) (hs:MvAt w m) (ho:MvOk m) (hcp:m.ps.cs.length<=m.ps.cc) (hcb:m.bs.cs.length<=m.bs.cc) (hz:cO m cu=0):
  Calls prog 21 #[.agg m.row,.agg cu.row] w fun r w'=>r= .returned (.tuple #[.agg #[.int .i64 (lw (allM m) cu.key).key,.int .i64 (lw (allM m) cu.key).val],.int .i64 (oF (allM m) cu.key)])/\Below w.heap.size w w':=by
 obtain⟨he,hv,hon⟩:=tH hz
 obtain⟨ver,on,key⟩:=cu
 dsimp only at hv hon ⊢
 subst hv
 subst hon
 obtain⟨W0,hW0⟩:∃W,((((w.alloc (.cells m.row 42)).alloc (.cells #[.int .u64 m.ver,.bool true,.int .i64 key] 44)).alloc (.cells #[.int .i64 0,.int .i64 0] 55)).alloc (.cells #[.int .i64 0] 48))=W:=⟨_,rfl⟩
 have hb0:Below w.heap.size w W0:=by rw[<-hW0];exact(((((Lg _ _).alloc (by first|exact Lf _|(simp;done)|(simp;omega)) _).alloc (by first|exact Lf _|(simp;done)|(simp;omega)) _).alloc (by first|exact Lf _|(simp;done)|(simp;omega)) _).alloc (by first|exact Lf _|(simp;done)|(simp;omega)) _)
 have bq0:Blk W0 w.heap.size 42 m.row:=by rw[<-hW0];exact((((Blk.new _ _ _).alloc _).alloc _).alloc _)
 have HQ0:=Lc bq0
 have bq1:Blk W0 (w.heap.size+1) 44 #[.int .u64 m.ver,.bool true,.int .i64 key]:=by rw[<-hW0];exact(((aj (by simp)).alloc _).alloc _)
 have HQ1:=Lc bq1
 have bq2:Blk W0 (w.heap.size+2) 55 #[.int .i64 0,.int .i64 0]:=by rw[<-hW0];exact((aj (by simp)).alloc _)
 have HQ2:=Lc bq2
 have bq3:Blk W0 (w.heap.size+3) 48 #[.int .i64 0]:=by rw[<-hW0];exact(aj (by simp))
 have HQ3:=Lc bq3
 have HW0:=Lc hW0
 have HB0:=Lc hb0
 clear hW0 hb0 bq0 bq1 bq2 bq3
 have hin:=GU m m.ver key W0 (hs.below HB0.out) ho hcp hcb he rfl
 have hln:=fG ho he
 have hri:=jI he
 obtain⟨P,hP⟩:∃P,allM m=P:=⟨_,rfl⟩
 rw[hP]at hin hln hri ⊢
 have HIN:=Lc hin
 have HLN:=Lc hln
 have HRI:=Lc hri
 have hKl:=mU P key
 obtain⟨C,hC⟩:∃C,lw P key=C:=⟨_,rfl⟩
 obtain⟨D,hD⟩:∃D,oF P key=D:=⟨_,rfl⟩
 rw[hC,hD]
 obtain⟨K,hK⟩:∃K,bel P key=K:=⟨_,rfl⟩
 rw[hK]at hKl
 have HKE:=Lc hK
 have HKL:=Lc hKl
 have hmet:∀p,K< P.length->um P (K+0)=p->p.key=key->C=p/\D=0:=fun p h1 h2 h3=>by
  have h4:P[K]! =p:=by rw[getElem!_pos P K h1,<-h2];unfold um;rw[Nat.add_zero,LJ,Lu h1];rfl
  have ht:dZ P key=true:=by unfold dZ kJ mH;rw[hK,if_pos h1,decide_eq_true h1,h4,decide_eq_true h3];rfl
  rw[<-hC,<-hD];unfold lw oF;rw[if_pos ht,if_pos ht,hK,h4];exact⟨rfl,rfl⟩
 have hnot:∀p,K< P.length->um P (K+0)=p->p.key≠key->C=⟨0,0⟩/\D=6:=fun p h1 h2 h3=>by
  have h4:P[K]! =p:=by rw[getElem!_pos P K h1,<-h2];unfold um;rw[Nat.add_zero,LJ,Lu h1];rfl
  have ht:¬dZ P key=true:=by unfold dZ kJ mH;rw[hK,if_pos h1,decide_eq_true h1,h4,decide_eq_false h3];simp
  rw[<-hC,<-hD];unfold lw oF;rw[if_neg ht,if_neg ht];exact⟨rfl,rfl⟩
 have hend:¬K< P.length->C=⟨0,0⟩/\D=6:=fun h1=>by
  have ht:¬dZ P key=true:=by unfold dZ kJ;rw[hK,decide_eq_false h1];simp
  rw[<-hC,<-hD];unfold lw oF;rw[if_neg ht,if_neg ht];exact⟨rfl,rfl⟩
 have HMET:=Lc hmet
 have HNOT:=Lc hnot
 have HEND:=Lc hend
 clear hin hln hri hs ho hcp hcb hK hKl hP he hC hD hz hmet hnot hend
 refine df (_F:=Fence.wide) ?_
 have hdd:∀k:Nat,(Fence.wide.depth.isSome=true->1<=k):=fun k h=>by cases h
 have hwf:∀f,Fence.wide.fn f:=fun _=>trivial
 have hdp:Fence.wide.depth=none:=rfl
 have hro:Fence.wide.round=none:=rfl
 refine Nv func21 rfl (hwf _) ?_ hro
 simp only[ntmps21,LW,List.length_cons,List.length_nil,Me,Mf,Array.replicate_succ,Array.replicate_zero,M3,MP,Ml,M4]
 try dsimp only[]
 repeat (first|rw[HW0.out]|refine fE rfl 42 (.tmp 2) rfl w.heap.size 0 rfl _ _ (ae HQ0.out 0 46 rfl) underlying42 rfl af ?_|refine gD 42 (.tmp 2) rfl w.heap.size 0 rfl _ _ (ae HQ0.out 0 46 rfl) underlying42 rfl af ?_|refine fE rfl 44 (.tmp 3) rfl (w.heap.size+1) 0 rfl _ _ (ae HQ1.out 0 3 rfl) underlying44 rfl dE ?_|refine gD 44 (.tmp 3) rfl (w.heap.size+1) 0 rfl _ _ (ae HQ1.out 0 3 rfl) underlying44 rfl dE ?_|go_values|gi_guarded|gi_step|gi_upon)
 gi_wp2_with (first|((try first|refine⟨hdp,?_⟩|refine⟨hdd _,?_⟩);gi_at_call 29;refine(callsIn_wide.2 HIN.out).mono ?_;rintro e w1 ⟨gp,A,c,rfl,hgp,hpl,hsl,hlc,hne,hb1⟩;have HB1:=Lc (aa HB0.out hb1);have HQ11:=Lc (HQ1.out.below hb1 HQ1.out.lt);have HQ21:=Lc (HQ2.out.below hb1 HQ2.out.lt);have HQ31:=Lc (HQ3.out.below hb1 HQ3.out.lt);have HPL:=Lc hpl;have HSL:=Lc hsl;have HLC:=Lc hlc;have HNE:=Lc (Lr hgp hne);clear hb1 hpl hsl hlc hne hgp)|((try first|refine⟨hdp,?_⟩|refine⟨hdd _,?_⟩);gi_at_call 31;refine(callsIn_wide.2 (Dl gp w1)).mono ?_;rintro e w2 ⟨rfl,hbx,hb2⟩;have HB2:=Lc (aa HB1.out hb2);have HQ12:=Lc (HQ11.out.below hb2 HQ11.out.lt);have HQ22:=Lc (HQ21.out.below hb2 HQ21.out.lt);have HQ32:=Lc (HQ31.out.below hb2 HQ31.out.lt);have HBX:=Lc hbx;have HPM:=Lc (HPL.out.below hb2 HPL.out.lt);have HSM:=Lc (HSL.out.below hb2);clear hb2 hbx))
 obtain⟨pb,hpb⟩:∃pb,w1.heap.size=pb:=⟨_,rfl⟩
 have hpg:pb≠gp:=by rw[<-hpb];exact Nat.ne_of_gt HPL.out.lt
 rw[hpb]at HBX ⊢
 have hpb2:pb< w2.heap.size:=HBX.out.lt
 have HFR:=Lc (show FrAt w2 gp pb m.ver A P c (.bool true) (.int .i64 key)from⟨HBX.out,HPM.out,HSM.out⟩)
 obtain⟨g,hg⟩:∃g,w.heap.size=g:=⟨_,rfl⟩
 rw[hg]at HB2 HQ12 HQ22 HQ32 ⊢
 have HGP:=Lc (show g+4<=gp by have:=HNE.out.1;have:=HQ3.out.lt;omega)
 have HPG:=Lc (show g+4<=pb by have:=HPL.out.lt;have:=HGP.out;omega)
 clear hpb
 refine yU hdp hwf hro rfl (enters_of func55 (by kernel_rfl) rfl) (DY gp pb m.ver true key A P c K w2 HFR.out HLC.out HLN.out HRI.out (fun a ha=>(HNE.out.2 a ha).2) hpg HKE.out) FJ FV
  ?hK (fun b hb=>by rw[hb];exact HPM.out.lt) (fun _=>rfl)
  (fun k W=>k=0/\Hid (Blk W (g+1) 44 #[.int .u64 m.ver,.bool true,.int .i64 key]/\Blk W (g+1+1) 55 #[.int .i64 0,.int .i64 0]/\Blk W (g+1+1+1) 48 #[.int .i64 0]/\Below g w W))
  (fun cc W=>(cc= .ret/\C=um P (K+0)/\D=0∨cc= .exit 0/\C=⟨0,0⟩/\D=6)/\Hid (Blk W (g+1+1) 55 #[.int .i64 C.key,.int .i64 C.val]/\Blk W (g+1+1+1) 48 #[.int .i64 0]/\Below g w W))
  ?stab ?stabx ?start (fun k a' W=>∃gy,a'=⟨#[.agg m.row,.agg (⟨m.ver,true,key⟩:Cu).row,.pointer (some ⟨g,0,none⟩),.pointer (some ⟨g+1,0,none⟩),.pointer (some ⟨g+1+1,0,none⟩),.pointer (some ⟨g+1+1+1,0,none⟩),.pointer (some ⟨gp,0,none⟩),.int .i64 0,(.pointer (some ⟨gy,0,none⟩)),Value.tuple #[.pointer (some ⟨gp,0,none⟩),.int .i64 0],.agg m.row,Value.agg #[.int .u64 m.ver,.bool true,.int .i64 key],Value.tuple #[.pointer (some ⟨gp,0,none⟩),.int .i64 0],.pointer (some ⟨gp,0,none⟩),.int .i64 0,.int .i64 0,.bool false,undef,undef,.pointer (some ⟨gp,0,none⟩),Value.func (Fn.func 55) #[] #[.pointer (some ⟨pb,0,none⟩)],.agg #[.int .i64 (um P (K+k)).key,.int .i64 (um P (K+k)).val],undef,undef,undef,undef,undef,undef,undef],[]⟩/\Hid (Blk W gy 55 #[.int .i64 (um P (K+k)).key,.int .i64 (um P (K+k)).val]/\g+4<=gy/\w2.heap.size+2<=gy)) ?hAx ?assign ?body ?done ?stop
 case hK=>
  rintro b (rfl|rfl|⟨a,hP,ha,rfl⟩)
  ·exact HPM.out.lt
  ·exact hpb2
  ·rcases HSM.out with h|⟨b,off,hA,hlt,_⟩
   ·exact absurd (by cases P with|nil=>rfl|cons x r=>simp[Pr.cells]at h) hP
   ·rw[ha]at hA;cases hA;exact hlt
 case start=>exact⟨rfl,HQ12.out,HQ22.out,HQ32.out,HB2.out⟩
 case stab=>
  rintro k A1 B ⟨hk,h⟩ hm
  obtain⟨h1,h2,h3,h4⟩:=h.out
  have:=h3.lt
  have hz:=HB2.out.size
  have hgl:=HGP.out
  have hnn:∀x,x< g+4->¬(x=gp∨x=w2.heap.size∨x=w2.heap.size+1):=fun x hx hh=>by have:=HQ32.out.lt;omega
  exact⟨hk,h1.mod hm (hnn _ (by omega)),h2.mod hm (hnn _ (by omega)),h3.mod hm (hnn _ (by omega)),h4.trans (hm.below (hg ▸ h4.size) (by rintro x (h|h|h) <;> omega))⟩
 case stabx=>
  rintro cc A1 B ⟨hc,h⟩ hm
  obtain⟨h2,h3,h4⟩:=h.out
  have hz:=HB2.out.size
  have hnn:∀x,x< g+4->¬(x=w2.heap.size∨x=w2.heap.size+1):=fun x hx hh=>by have:=HQ32.out.lt;omega
  exact⟨hc,h2.mod hm (hnn _ (by omega)),h3.mod hm (hnn _ (by omega)),h4.trans (hm.below (hg ▸ h4.size) (by rintro x (h|h) <;> omega))⟩
 case hAx=>
  rintro k a' A1 B ⟨gy,rfl,h⟩ hm
  obtain⟨h1,h2,h3⟩:=h.out
  exact⟨gy,rfl,h1.mod hm (fun hh=>by have hh:gy=gp∨gy=w2.heap.size∨gy=w2.heap.size+1:=hh;have:=HPM.out.lt;omega),h2,h3⟩
 case assign=>
  intro y k hk A1 CC hi hsz hC
  unfold frX
  have HI:=Lc hi
  clear hi
  gi_wp2
  have hi:=HI.out
  refine hC _ _ ((Mod.refl _ _).alloc _) ?_ ⟨A1.heap.size,rfl,Blk.new _ _ _,by have:=HQ32.out.lt;omega,hsz⟩
  obtain⟨hk0,h⟩:=hi
  obtain⟨h1,h2,h3,h4⟩:=h.out
  exact⟨hk0,h1.alloc _,h2.alloc _,h3.alloc _,h4.alloc (hg ▸ h4.size) _⟩
 case body=>
  rintro y k hk a' A1 ⟨hk0,hi⟩ hS ⟨gy,rfl,hy⟩ hsz
  subst hk0
  have hKP:K< P.length:=by omega
  obtain⟨h1,h2,h3,h4⟩:=hi.out
  obtain⟨hyb,hgy,hgz⟩:=hy.out
  obtain⟨ee,hee⟩:∃e,um P (K+0)=e:=⟨_,rfl⟩
  rw[hee]at hyb ⊢
  have HMT:=Lc (HMET.out ee hKP hee)
  have HNT:=Lc (HNOT.out ee hKP hee)
  have y0:A1.cell? ⟨gy,0,none⟩=some (.int .i64 ee.key):=hyb.cell 0
  have y1:A1.cell? ⟨gy,1,none⟩=some (.int .i64 ee.val):=hyb.cell 1
  have q2:A1.cell? ⟨g+1,2,none⟩=some (.int .i64 key):=h1.cell 2
  have d0:A1.cell? ⟨g+1+1,0,none⟩=some (.int .i64 0):=h2.cell 0
  have d1:A1.cell? ⟨g+1+1,1,none⟩=some (.int .i64 0):=h2.cell 1
  have d2:A1.cell? ⟨g+1+1+1,0,none⟩=some (.int .i64 0):=h3.cell 0
  have f0:A1.frozen? ⟨g+1+1,0,none⟩=false:=h2.frozen 0
  have f1:A1.frozen? ⟨g+1+1,1,none⟩=false:=h2.frozen 1
  have f2:A1.frozen? ⟨g+1+1+1,0,none⟩=false:=h3.frozen 0
  have hlz:g+4<=w2.heap.size:=by have:=HQ32.out.lt;omega
  have H2:=Lc h2
  have H3:=Lc h3
  have H4:=Lc h4
  have HLZ:=Lc (Lr hlz hgy)
  clear h1 h2 h3 h4 hi hyb hy hS hk hKP hee hlz hgy hgz
  by_cases hke:ee.key=key
  ·have hq:(ee.key==key)=true:=by simp[hke]
   obtain⟨rfl,rfl⟩:=HMT.out hke
   clear hke HMT HNT
   gi_wp2
   have hl:=HLZ.out
   refine⟨(((Mod.refl _ _).setCell (p:=⟨g+1+1,0,none⟩) (by simp;omega) _).setCell (p:=⟨g+1+1,1,none⟩) (by simp;omega) _).setCell (p:=⟨g+1+1+1,0,none⟩) (by simp;omega) _,by first|exact .inl ⟨rfl,rfl,rfl⟩|exact⟨rfl,rfl,rfl⟩|simp,?_,?_,?_⟩
   ·exact(H2.out.set2 _ _).far (p:=⟨g+1+1+1,0,none⟩) (by simp) _
   ·simpa using((H3.out.far (p:=⟨g+1+1,0,none⟩) (by simp) (.int .i64 C.key)).far (p:=⟨g+1+1,1,none⟩) (by simp) (.int .i64 C.val)).set_ 0 (.int .i64 0)
   ·exact((H4.out.setCell (p:=⟨g+1+1,0,none⟩) (by show g<=g+1+1;omega) _).setCell (p:=⟨g+1+1,1,none⟩) (by show g<=g+1+1;omega) _).setCell (p:=⟨g+1+1+1,0,none⟩) (by show g<=g+1+1+1;omega) _
  ·have hq:(ee.key==key)=false:=by simp[hke]
   obtain⟨rfl,rfl⟩:=HNT.out hke
   clear hke HMT HNT
   gi_wp2
   exact⟨Mod.refl _ _,by first|exact .inr ⟨rfl,rfl,rfl⟩|exact⟨rfl,rfl,rfl⟩|simp,H2.out,H3.out,H4.out⟩
 case done=>
  rintro W ⟨hN,h⟩ hE hD
  obtain⟨rfl,rfl⟩:=HEND.out (by omega)
  obtain⟨h1,h2,h3,h4⟩:=h.out
  have d0:W.cell? ⟨g+1+1,0,none⟩=some (.int .i64 0):=h2.cell 0
  have d1:W.cell? ⟨g+1+1,1,none⟩=some (.int .i64 0):=h2.cell 1
  have d2:W.cell? ⟨g+1+1+1,0,none⟩=some (.int .i64 0):=h3.cell 0
  have f0:W.frozen? ⟨g+1+1,0,none⟩=false:=h2.frozen 0
  have f1:W.frozen? ⟨g+1+1,1,none⟩=false:=h2.frozen 1
  have f2:W.frozen? ⟨g+1+1+1,0,none⟩=false:=h3.frozen 0
  have hlz:g+4<=w2.heap.size:=by have:=HQ32.out.lt;omega
  have H2:=Lc h2
  have H3:=Lc h3
  have H4:=Lc h4
  have HD:=Lc hD
  have HLZ:=Lc hlz
  clear h2 h3 h4 h hD hlz
  gi_wp2
  obtain⟨W9,hW9⟩:∃W9,((W.setCell ⟨g+1+1,0,none⟩ (.int .i64 0)).setCell ⟨g+1+1,1,none⟩ (.int .i64 0)).setCell ⟨g+1+1+1,0,none⟩ (.int .i64 6)=W9:=⟨_,rfl⟩
  have hm9:Mod (fun b=>b=g+1+1∨b=g+1+1+1) W W9:=by rw[<-hW9];exact(((Mod.refl (fun b=>b=g+1+1∨b=g+1+1+1) W).setCell (p:=⟨g+1+1,0,none⟩) (.inl rfl) _).setCell (p:=⟨g+1+1,1,none⟩) (.inl rfl) _).setCell (p:=⟨g+1+1+1,0,none⟩) (.inr rfl) _
  have hr9:Blk W9 (g+1+1) 55 #[.int .i64 0,.int .i64 0]:=by rw[<-hW9];exact(H2.out.set2 _ _).far (p:=⟨g+1+1+1,0,none⟩) (by simp) _
  have he9:Blk W9 (g+1+1+1) 48 #[.int .i64 6]:=by rw[<-hW9];simpa using((H3.out.far (p:=⟨g+1+1,0,none⟩) (by simp) (.int .i64 0)).far (p:=⟨g+1+1,1,none⟩) (by simp) (.int .i64 0)).set_ 0 (.int .i64 6)
  have hb9:Below g w W9:=H4.out.trans (hm9.below (hg ▸ H4.out.size) (by rintro b (hb|hb) <;> omega))
  try rw[hW9]
  have hlz:=HLZ.out
  have e0:(W9.putObj w2.heap.size (.deferred none)).cell? ⟨g+1+1,0,none⟩=some (.int .i64 0):=(dB hr9 (LA (by omega))).cell 0
  have e1:(W9.putObj w2.heap.size (.deferred none)).cell? ⟨g+1+1,1,none⟩=some (.int .i64 0):=(dB hr9 (LA (by omega))).cell 1
  have e2:(W9.putObj w2.heap.size (.deferred none)).cell? ⟨g+1+1+1,0,none⟩=some (.int .i64 6):=(dB he9 (LA (by omega))).cell 0
  have hD9:W9.heap[w2.heap.size]?=some (.deferred (some [])):=(hm9.block _ (Array.getElem?_eq_some_iff.1 HD.out).1 (by rintro(hb|hb) <;> omega)).trans HD.out
  refine jO (v:= .tuple #[.agg #[.int .i64 0,.int .i64 0],.int .i64 6]) hD9 (by simp[results,results21,go_sem,e0,e1,e2]) ⟨rfl,?_⟩
  subst hg
  exact hb9.trans ⟨rfl,rfl,rfl,by simp[World.putObj],fun k hk=>LA (by omega)⟩
 case stop=>
  rintro cc W ⟨hc,h⟩ hD
  obtain⟨h2,h3,h4⟩:=h.out
  rcases hc with⟨rfl,hC,rfl⟩|⟨rfl,rfl,rfl⟩
  ·have hlz:g+4<=w2.heap.size:=by have:=HQ32.out.lt;omega
   have e0:(W.putObj w2.heap.size (.deferred none)).cell? ⟨g+1+1,0,none⟩=some (.int .i64 C.key):=(dB h2 (LA (by omega))).cell 0
   have e1:(W.putObj w2.heap.size (.deferred none)).cell? ⟨g+1+1,1,none⟩=some (.int .i64 C.val):=(dB h2 (LA (by omega))).cell 1
   have e2:(W.putObj w2.heap.size (.deferred none)).cell? ⟨g+1+1+1,0,none⟩=some (.int .i64 0):=(dB h3 (LA (by omega))).cell 0
   clear hC
   gi_wp2
   refine jO (v:= .tuple #[.agg #[.int .i64 C.key,.int .i64 C.val],.int .i64 0]) hD (by simp[results,results21,go_sem,e0,e1,e2]) ⟨rfl,?_⟩
   subst hg
   exact h4.trans ⟨rfl,rfl,rfl,by simp[World.putObj],fun k hk=>LA (by omega)⟩
  ·have d0:W.cell? ⟨g+1+1,0,none⟩=some (.int .i64 0):=h2.cell 0
   have d1:W.cell? ⟨g+1+1,1,none⟩=some (.int .i64 0):=h2.cell 1
   have d2:W.cell? ⟨g+1+1+1,0,none⟩=some (.int .i64 0):=h3.cell 0
   have f0:W.frozen? ⟨g+1+1,0,none⟩=false:=h2.frozen 0
   have f1:W.frozen? ⟨g+1+1,1,none⟩=false:=h2.frozen 1
   have f2:W.frozen? ⟨g+1+1+1,0,none⟩=false:=h3.frozen 0
   have hlz:g+4<=w2.heap.size:=by have:=HQ32.out.lt;omega
   have H2:=Lc h2
   have H3:=Lc h3
   have H4:=Lc h4
   have HD:=Lc hD
   have HLZ:=Lc hlz
   clear h2 h3 h4 h hD hlz
   gi_wp2
   obtain⟨W9,hW9⟩:∃W9,((W.setCell ⟨g+1+1,0,none⟩ (.int .i64 0)).setCell ⟨g+1+1,1,none⟩ (.int .i64 0)).setCell ⟨g+1+1+1,0,none⟩ (.int .i64 6)=W9:=⟨_,rfl⟩
   have hm9:Mod (fun b=>b=g+1+1∨b=g+1+1+1) W W9:=by rw[<-hW9];exact(((Mod.refl (fun b=>b=g+1+1∨b=g+1+1+1) W).setCell (p:=⟨g+1+1,0,none⟩) (.inl rfl) _).setCell (p:=⟨g+1+1,1,none⟩) (.inl rfl) _).setCell (p:=⟨g+1+1+1,0,none⟩) (.inr rfl) _
   have hr9:Blk W9 (g+1+1) 55 #[.int .i64 0,.int .i64 0]:=by rw[<-hW9];exact(H2.out.set2 _ _).far (p:=⟨g+1+1+1,0,none⟩) (by simp) _
   have he9:Blk W9 (g+1+1+1) 48 #[.int .i64 6]:=by rw[<-hW9];simpa using((H3.out.far (p:=⟨g+1+1,0,none⟩) (by simp) (.int .i64 0)).far (p:=⟨g+1+1,1,none⟩) (by simp) (.int .i64 0)).set_ 0 (.int .i64 6)
   have hb9:Below g w W9:=H4.out.trans (hm9.below (hg ▸ H4.out.size) (by rintro b (hb|hb) <;> omega))
   try rw[hW9]
   have hlz:=HLZ.out
   have e0:(W9.putObj w2.heap.size (.deferred none)).cell? ⟨g+1+1,0,none⟩=some (.int .i64 0):=(dB hr9 (LA (by omega))).cell 0
   have e1:(W9.putObj w2.heap.size (.deferred none)).cell? ⟨g+1+1,1,none⟩=some (.int .i64 0):=(dB hr9 (LA (by omega))).cell 1
   have e2:(W9.putObj w2.heap.size (.deferred none)).cell? ⟨g+1+1+1,0,none⟩=some (.int .i64 6):=(dB he9 (LA (by omega))).cell 0
   have hD9:W9.heap[w2.heap.size]?=some (.deferred (some [])):=(hm9.block _ (Array.getElem?_eq_some_iff.1 HD.out).1 (by rintro(hb|hb) <;> omega)).trans HD.out
   refine jO (v:= .tuple #[.agg #[.int .i64 0,.int .i64 0],.int .i64 6]) hD9 (by simp[results,results21,go_sem,e0,e1,e2]) ⟨rfl,?_⟩
   subst hg
   exact hb9.trans ⟨rfl,rfl,rfl,by simp[World.putObj],fun k hk=>LA (by omega)⟩
theorem Dy (m:Mv) (cu:Cu) (w:World) (hs:MvAt w m) (ho:MvOk m) (hcp:m.ps.cs.length<=m.ps.cc) (hcb:m.bs.cs.length<=m.bs.cc):
  Calls prog 21 #[.agg m.row,.agg cu.row] w fun r w'=>r= .returned (.tuple #[.agg #[.int .i64 (mI m cu).key,.int .i64 (mI m cu).val],.int .i64 (pW m cu)])/\Below w.heap.size w w':=by
 unfold mI pW
 by_cases hz:cO m cu=0
 ·rw[if_pos hz,if_pos hz]
  exact AP m cu w hs ho hcp hcb hz
 ·rw[if_neg hz,if_neg hz]
  exact DL m cu w hs ho hcp hcb hz
end
theorem yH (m:Mv) (w:World) (hs:MvAt w m) (hw:∀x∈m.ps.ws,x< 18446744073709551616) (hv:∀x∈m.bs.ws,x< 18446744073709551616):
  Calls prog 5 #[.agg m.row,.int .i64 300] w fun r w'=>∃G:Bool,r= .returned (.bool G)/\(G=false->MvOk m)/\Below w.heap.size w w':=by
 obtain⟨G,hG⟩:∃b,fV m.ps=b:=⟨_,rfl⟩
 obtain⟨H,hH⟩:∃b,(fV m.bs||lC m.bx)=b:=⟨_,rfl⟩
 have q:=fun W=>qf m.pc m.ps W
 have q2:=fun W=>zl m.bc m.bs m.bx W
 have q3:=fun W (h:MvAt W m)=>yl m.lB m.lR m.lk 300 m.lc m.ln W h.log (by omega)
 rw[hG]at q
 rw[hH]at q2
 have Q:=Lc q
 have Q2:=Lc q2
 have Q3:=Lc q3
 have hok:G=false->H=false->m.lR.length+tot (aB m.lR)<=300->MvOk m:=by
  intro g h l
  rw[g]at hG
  rw[h]at hH
  unfold fV at hG
  rw[Bool.or_eq_false_iff]at hH
  obtain⟨h1,h2⟩:=hH
  unfold fV at h1
  unfold lC at h2
  simp only[Bool.or_eq_false_iff,decide_eq_false_iff_not]at hG h1 h2
  obtain⟨⟨⟨a1,a2⟩,a3⟩,a4⟩:=hG
  obtain⟨⟨⟨b1,b2⟩,b3⟩,b4⟩:=h1
  exact⟨⟨hw,by omega,by omega,by omega,by omega⟩,⟨hv,by omega,by omega,by omega,by omega⟩,⟨by omega,by omega⟩,l⟩
 have HOK:=Lc hok
 have HS:=Lc hs
 clear q q2 q3 hG hH hok hs hw hv
 go_enter func5,ntmps5
 have HF:=Lc (Lg w.heap.size w)
 have HY1:=Lc (HS.out)
 go_upto_region 1 with fail
 obtain⟨U2,h3⟩:∃U,w.alloc (.cells m.row 42)=U:=⟨_,rfl⟩
 have ba4:Below w.heap.size w U2:=by rw[<-h3];exact(Lg _ _).alloc (by first|(simp;done)|(simp;omega)) _
 have bn5:Blk U2 (w.heap.size) 42 m.row:=by
  rw[<-h3]
  have hq:=(Blk.new w 42 m.row)
  exact hq
 try rw[h3]
 have HF6:=Lc (aa HF.out ba4)
 have HY7:=Lc (MvAt.below HY1.out ba4)
 clear HF HY1
 obtain⟨g8,h9⟩:∃g,(w.heap.size)=g:=⟨_,rfl⟩
 rw[h9]at bn5
 try rw[h9]
 have HX10:=Lc bn5
 clear bn5 h9
 clear h3 ba4
 try dsimp only[]
 repeat (first|refine ldb HX10.out 2 underlying31 bF rfl rfl rfl rfl ?_|go_values|go_skip|go_guarded|go_step|go_upon)
 refine(Q.out _).mono ?_
 rintro e w12 ⟨rfl,hb13⟩
 have HF14:=Lc (aa HF6.out hb13)
 have HX15:=Lc (HX10.out.below hb13 HX10.out.lt)
 have HY16:=Lc (MvAt.below HY7.out hb13)
 clear HF6 HX10 HY7
 clear hb13
 cases G with
 |true=>
  go_wp2_with fail
  go_ret
  exact⟨true,rfl,fun h=>absurd h (by simp),HF14.out⟩
 |false=>
 try dsimp only[]
 repeat (first|refine ldb HX15.out 17 underlying35 ik rfl rfl rfl rfl ?_|go_values|go_skip|go_guarded|go_step|go_upon)
 refine(Q2.out _).mono ?_
 rintro e w18 ⟨rfl,hb19⟩
 have HF20:=Lc (aa HF14.out hb19)
 have HX21:=Lc (HX15.out.below hb19 HX15.out.lt)
 have HY22:=Lc (MvAt.below HY16.out hb19)
 clear HF14 HX15 HY16
 clear hb19
 cases H with
 |true=>
  go_wp2_with fail
  go_ret
  exact⟨true,rfl,fun h=>absurd h (by simp),HF20.out⟩
 |false=>
 try dsimp only[]
 repeat (first|refine ldb HX21.out 35 underlying40 iw rfl rfl rfl rfl ?_|go_values|go_skip|go_guarded|go_step|go_upon)
 refine(Q3.out _ HY22.out).mono ?_
 rintro e w24 ⟨K,rfl,hK,hb25⟩
 have HF26:=Lc (aa HF20.out hb25)
 have HX27:=Lc (HX21.out.below hb25 HX21.out.lt)
 have HY28:=Lc (MvAt.below HY22.out hb25)
 clear HF20 HX21 HY22
 clear hb25
 have HK:=Lc hK
 clear hK
 go_wp2_with fail
 go_ret
 exact⟨K,rfl,fun h=>HOK.out (by trivial) (by trivial) (HK.out h),HF26.out⟩
end Go.Proofs.YtpbmbjjfdpkhbaaGreat
