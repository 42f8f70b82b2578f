/- part of the proof -/
import Derived.Test.YtpbmbjjfdpkhbaaGreatZq15
import Derived.Test.YtpbmbjjfdpkhbaaGreatZq13
import Derived.Test.YtpbmbjjfdpkhbaaGreatZq13b
import Derived.Deep.RegionWith
import Derived.Deep.CutRange
import Derived.Test.YtpbmbjjfdpkhbaaGreatZq5
import Derived.BigQuiet
import Derived.Deep.Cut
namespace Go.Proofs.YtpbmbjjfdpkhbaaGreat
open Go Go.RowKit
set_option linter.all false
set_option maxRecDepth 100000
set_option maxHeartbeats 32000000
open Go.Proofs.Tryz
open Below renaming refl->Lg
open Bool renaming false_eq_true->Mt
open Go renaming bodyPost_ret->Li,wpList_load_mid->LK,wp_load_mid->LY
open Go.IntWalk renaming i64_in->Lh
open Go.Lib renaming hid->Lc
open List renaming getElem?_cons_succ->Ll,getElem?_cons_zero->Lm,getElem?_toArray->LB,range->L8,range'->MS,setIfInBounds_toArray->LM,set_cons_succ->Mc,set_cons_zero->Mi,size_toArray->LW
open Nat renaming le_refl->Lf,le_trans->Lt,reduceAdd->Me,reduceBEq->M9,reduceEqDiff->MH,reduceLT->Nh,reduceSub->Mf
def dA (P:List Pr) (key:Int) (fw:Bool):Int:=if fw=true then((qR P key:Nat):Int)else((bel P key:Nat):Int)-1
theorem mi (P:List Pr) (key:Int):qR P key=if dZ P key=true then bel P key+1 else bel P key:=by
 unfold qR dZ kJ mH
 by_cases h:bel P key< P.length
 ·simp[h]
 ·simp[h]
def iR (m:Mv) (c:Cu) (fw:Bool):Cu:=if cO m c=0 then dM m.ver (allM m) (dA (allM m) c.key fw)else lF
def iN (m:Mv) (c:Cu) (fw:Bool):Int:=if cO m c=0 then il (allM m) (dA (allM m) c.key fw)else cO m c
def lw (P:List Pr) (key:Int):Pr:=if dZ P key=true then P[bel P key]! else⟨0,0⟩
def oF (P:List Pr) (key:Int):Int:=if dZ P key=true then 0 else 6
def mI (m:Mv) (c:Cu):Pr:=if cO m c=0 then lw (allM m) c.key else⟨0,0⟩
def pW (m:Mv) (c:Cu):Int:=if cO m c=0 then oF (allM m) c.key else cO m c
theorem yQ (m:Mv) (A:Option Addr) (P:List Pr) (c:Nat) (cu:Cu) (fw:Bool) (w:World) (hA:Sl w A (P.flatMap Pr.cells)) (hl:P.length<=16384) (hr:Ris P):
  Calls prog 62 #[.agg m.row,.slice A P.length c,.agg cu.row,.bool fw] w fun r w'=>r= .returned (.tuple #[.agg (dM m.ver P (dA P cu.key fw)).row,.int .i64 (il P (dA P cu.key fw))])/\Below w.heap.size w w':=by
 obtain⟨W0,hW0⟩:∃W,(((w.alloc (.cells m.row 42)).alloc (.cells #[.int .u64 cu.ver,.bool cu.on,.int .i64 cu.key] 44)).alloc (.cells #[.int .u64 0,.bool false,.int .i64 0] 44))=W:=⟨_,rfl⟩
 have hb0:Below w.heap.size w W0:=by rw[<-hW0];exact((((Lg _ _).alloc (by first|exact Lf _|(simp;done)|(simp;omega)) _).alloc (by first|exact Lf _|(simp;done)|(simp;omega)) _).alloc (by first|exact Lf _|(simp;done)|(simp;omega)) _)
 have bq0:Blk W0 w.heap.size 42 m.row:=by rw[<-hW0];exact(((Blk.new _ _ _).alloc _).alloc _)
 have HQ0:=Lc bq0
 have bq1:Blk W0 (w.heap.size+1) 44 #[.int .u64 cu.ver,.bool cu.on,.int .i64 cu.key]:=by rw[<-hW0];exact((aj (by simp)).alloc _)
 have HQ1:=Lc bq1
 have bq2:Blk W0 (w.heap.size+2) 44 #[.int .u64 0,.bool false,.int .i64 0]:=by rw[<-hW0];exact(aj (by simp))
 have HQ2:=Lc bq2
 have HW0:=Lc hW0
 have HB0:=Lc hb0
 clear hW0 hb0 bq0 bq1 bq2
 have hbe:=ku A P c cu.key W0 (hA.below HB0.out) (by omega)
 have hse:=fun W (h:Below W0.heap.size W0 W) k=>lT m A P c k W ((hA.below HB0.out).below h) (by omega)
 have hth:=fun W (h:Below W0.heap.size W0 W)=>pM A P c cu.key W ((hA.below HB0.out).below h) (by omega) hr
 have hbt:=mi P cu.key
 have hbl:=mU P cu.key
 obtain⟨K,hK⟩:∃K,bel P cu.key=K:=⟨_,rfl⟩
 obtain⟨B,hB⟩:∃B,dZ P cu.key=B:=⟨_,rfl⟩
 rw[hB,hK]at hbt
 rw[hB]at hth
 rw[hK]at hbe hbl
 have hm:dA P cu.key fw=if fw=true then(if B=true then((K+1:Nat):Int)else(K:Int))else(K:Int)-1:=by
  unfold dA
  rw[hbt,hK]
  cases B <;> simp
 rw[hm]
 have HBE:=Lc hbe
 have HSE:=Lc hse
 have HTH:=Lc hth
 have HKL:=Lc (show K<=16384 by omega)
 clear hbe hse hth hbt hm hK hB hA hl hr hbl
 have a0:=HQ1.out.cell
 cases fw with
 |false=>
  obtain⟨J,hJ⟩:∃J:Int,(K:Int)-1=J:=⟨_,rfl⟩
  have hwr:IntKind.i64.wrap ((K:Int)-1)=J:=by rw[Lh _ (by have:=HKL.out;omega)];exact hJ
  simp only[Mt,if_false,hJ]
  obtain⟨C,hC⟩:∃C,dM m.ver P J=C:=⟨_,rfl⟩
  obtain⟨D,hD⟩:∃D,il P J=D:=⟨_,rfl⟩
  have hsj:=fun W h=>HSE.out W h J
  rw[hC,hD]at hsj ⊢
  have HSJ:=Lc hsj
  clear hC hD hsj hJ
  go_enter func62,ntmps62
  go_upto_region 1 with fail
  rw[HW0.out]
  go_wp2_with fail
  refine HBE.out.mono ?_
  rintro e w1 ⟨rfl,hb1⟩
  have HB1:=Lc (aa HB0.out hb1)
  have HQ01:=Lc (HQ0.out.below hb1 HQ0.out.lt)
  have HQ21:=Lc (HQ2.out.below hb1 HQ2.out.lt)
  have HX1:=Lc hb1
  clear hb1
  go_upto_region 3 with fail
  try dsimp only[]
  repeat (first|refine ldb HQ01.out 0 underlying42 af rfl rfl rfl rfl ?_|go_values|go_skip|go_guarded|go_step|go_upon)
  refine(HSJ.out _ HX1.out).mono ?_
  rintro e w2 ⟨rfl,hbw2⟩
  have HBz:=Lc (aa HB1.out hbw2)
  have HQz:=Lc (HQ21.out.below hbw2 HQ21.out.lt)
  clear hbw2
  have d0:=HQz.out.cell
  have f0:=HQz.out.frozen
  go_wp2_with fail
  have hR:=Lc (HQz.out.set3 (.int .u64 C.ver) (.bool C.on) (.int .i64 C.key))
  have e0:=hR.out.cell
  simp only[LB,Lm,Ll]at e0
  refine Li (v:= .tuple #[.agg #[.int .u64 C.ver,.bool C.on,.int .i64 C.key],.int .i64 D]) (by simp[results,results62,go_sem,(e0 0),(e0 1),(e0 2)]) rfl ?_
  exact⟨rfl,(((HBz.out.setCell (p:=⟨(w.heap.size+2),0,none⟩) (by show w.heap.size<=(w.heap.size+2);omega) _).setCell (p:=⟨(w.heap.size+2),1,none⟩) (by show w.heap.size<=(w.heap.size+2);omega) _).setCell (p:=⟨(w.heap.size+2),2,none⟩) (by show w.heap.size<=(w.heap.size+2);omega) _)⟩
 |true=>
  simp only[if_true]
  obtain⟨J,hJ⟩:∃J:Int,(if B=true then((K+1:Nat):Int)else(K:Int))=J:=⟨_,rfl⟩
  rw[hJ]
  obtain⟨C,hC⟩:∃C,dM m.ver P J=C:=⟨_,rfl⟩
  obtain⟨D,hD⟩:∃D,il P J=D:=⟨_,rfl⟩
  have hsj:=fun W h=>HSE.out W h J
  rw[hC,hD]at hsj ⊢
  have HSJ:=Lc hsj
  have HJ:=Lc hJ
  clear hC hD hsj hJ
  go_enter func62,ntmps62
  go_upto_region 1 with fail
  rw[HW0.out]
  go_wp2_with fail
  refine HBE.out.mono ?_
  rintro e w1 ⟨rfl,hb1⟩
  have HB1:=Lc (aa HB0.out hb1)
  have HQ01:=Lc (HQ0.out.below hb1 HQ0.out.lt)
  have HQ11:=Lc (HQ1.out.below hb1 HQ1.out.lt)
  have HQ21:=Lc (HQ2.out.below hb1 HQ2.out.lt)
  have HX1:=Lc hb1
  clear hb1 a0
  have a0:=HQ11.out.cell
  go_wp2_with fail
  refine(HTH.out _ HX1.out).mono ?_
  rintro e w2 ⟨rfl,hb2⟩
  have HB2:=Lc (aa HB1.out hb2)
  have HQ02:=Lc (HQ01.out.below hb2 HQ01.out.lt)
  have HQ22:=Lc (HQ21.out.below hb2 HQ21.out.lt)
  have HX2:=Lc (aa HX1.out hb2)
  clear hb2 a0
  cases B with
  |false=>
   obtain rfl:J=(K:Int):=by rw[<-HJ.out];simp
   go_upto_region 6 with fail
   try dsimp only[]
   repeat (first|refine ldb HQ02.out 0 underlying42 af rfl rfl rfl rfl ?_|go_values|go_skip|go_guarded|go_step|go_upon)
   refine(HSJ.out _ HX2.out).mono ?_
   rintro e w3 ⟨rfl,hbw3⟩
   have HBz:=Lc (aa HB2.out hbw3)
   have HQz:=Lc (HQ22.out.below hbw3 HQ22.out.lt)
   clear hbw3
   have d0:=HQz.out.cell
   have f0:=HQz.out.frozen
   go_wp2_with fail
   have hR:=Lc (HQz.out.set3 (.int .u64 C.ver) (.bool C.on) (.int .i64 C.key))
   have e0:=hR.out.cell
   simp only[LB,Lm,Ll]at e0
   refine Li (v:= .tuple #[.agg #[.int .u64 C.ver,.bool C.on,.int .i64 C.key],.int .i64 D]) (by simp[results,results62,go_sem,(e0 0),(e0 1),(e0 2)]) rfl ?_
   exact⟨rfl,(((HBz.out.setCell (p:=⟨(w.heap.size+2),0,none⟩) (by show w.heap.size<=(w.heap.size+2);omega) _).setCell (p:=⟨(w.heap.size+2),1,none⟩) (by show w.heap.size<=(w.heap.size+2);omega) _).setCell (p:=⟨(w.heap.size+2),2,none⟩) (by show w.heap.size<=(w.heap.size+2);omega) _)⟩
  |true=>
   obtain rfl:J=((K+1:Nat):Int):=by rw[<-HJ.out];simp
   have hwr:IntKind.i64.wrap ((K:Int)+1)=((K+1:Nat):Int):=by rw[Lh _ (by have:=HKL.out;omega)];omega
   go_upto_region 6 with fail
   try dsimp only[]
   repeat (first|refine ldb HQ02.out 0 underlying42 af rfl rfl rfl rfl ?_|go_values|go_skip|go_guarded|go_step|go_upon)
   refine(HSJ.out _ HX2.out).mono ?_
   rintro e w3 ⟨rfl,hbw3⟩
   have HBz:=Lc (aa HB2.out hbw3)
   have HQz:=Lc (HQ22.out.below hbw3 HQ22.out.lt)
   clear hbw3
   have d0:=HQz.out.cell
   have f0:=HQz.out.frozen
   go_wp2_with fail
   have hR:=Lc (HQz.out.set3 (.int .u64 C.ver) (.bool C.on) (.int .i64 C.key))
   have e0:=hR.out.cell
   simp only[LB,Lm,Ll]at e0
   refine Li (v:= .tuple #[.agg #[.int .u64 C.ver,.bool C.on,.int .i64 C.key],.int .i64 D]) (by simp[results,results62,go_sem,(e0 0),(e0 1),(e0 2)]) rfl ?_
   exact⟨rfl,(((HBz.out.setCell (p:=⟨(w.heap.size+2),0,none⟩) (by show w.heap.size<=(w.heap.size+2);omega) _).setCell (p:=⟨(w.heap.size+2),1,none⟩) (by show w.heap.size<=(w.heap.size+2);omega) _).setCell (p:=⟨(w.heap.size+2),2,none⟩) (by show w.heap.size<=(w.heap.size+2);omega) _)⟩
theorem Blk.set2 {w:World} {g:Nat} {t:TypeId} {x0 x1:Value} (h:Blk w g t #[x0,x1]) (y0 y1:Value):Blk ((w.setCell ⟨g,0,none⟩ y0).setCell ⟨g,1,none⟩ y1) g t #[y0,y1]:=by simpa using(h.set_ 0 y0).set_ 1 y1
theorem rC (m:Mv) (cu:Cu) (fw:Bool) (w:World) (hs:MvAt w m) (ho:MvOk m):
  Calls prog 45 #[.agg m.row,.agg cu.row,.bool fw] w fun r w'=>r= .returned (.tuple #[.agg (iR m cu fw).row,.int .i64 (iN m cu fw)])/\Below w.heap.size w w':=by
 obtain⟨W0,hW0⟩:∃W,(((w.alloc (.cells m.row 42)).alloc (.cells #[.int .u64 cu.ver,.bool cu.on,.int .i64 cu.key] 44)).alloc (.cells #[.int .u64 0,.bool false,.int .i64 0] 44))=W:=⟨_,rfl⟩
 have hb0:Below w.heap.size w W0:=by rw[<-hW0];exact((((Lg _ _).alloc (by first|exact Lf _|(simp;done)|(simp;omega)) _).alloc (by first|exact Lf _|(simp;done)|(simp;omega)) _).alloc (by first|exact Lf _|(simp;done)|(simp;omega)) _)
 have bq0:Blk W0 w.heap.size 42 m.row:=by rw[<-hW0];exact(((Blk.new _ _ _).alloc _).alloc _)
 have HQ0:=Lc bq0
 have bq1:Blk W0 (w.heap.size+1) 44 #[.int .u64 cu.ver,.bool cu.on,.int .i64 cu.key]:=by rw[<-hW0];exact((aj (by simp)).alloc _)
 have HQ1:=Lc bq1
 have bq2:Blk W0 (w.heap.size+2) 44 #[.int .u64 0,.bool false,.int .i64 0]:=by rw[<-hW0];exact(aj (by simp))
 have HQ2:=Lc bq2
 have HW0:=Lc hW0
 have HB0:=Lc hb0
 clear hW0 hb0 bq0 bq1 bq2
 have has:=gK m W0 (hs.below HB0.out) ho
 have hln:=fG ho
 have hri:=fun he:aQ m=0=>jI he
 have hof:=fun W=>yz m cu W
 unfold iR iN
 rw[xL]
 obtain⟨E,hE⟩:∃E,aQ m=E:=⟨_,rfl⟩
 rw[hE]at has hln hri ⊢
 obtain⟨O,hO⟩:∃O,JC m cu=O:=⟨_,rfl⟩
 rw[hO]at hof ⊢
 obtain⟨P,hP⟩:∃P,allM m=P:=⟨_,rfl⟩
 rw[hP]at has hln hri ⊢
 have HOF:=Lc hof
 clear hof hO
 have a0:=HQ1.out.cell
 by_cases he:E=0
 case neg=>
  rw[if_neg he]
  rw[if_neg he]at has
  rw[if_neg he,if_neg he]
  have HAS:=Lc has
  clear has hE hP hln hri hs ho
  clear a0
  go_enter func45,ntmps45
  go_upto_region 1 with fail
  rw[HW0.out]
  try dsimp only[]
  repeat (first|refine ldb HQ0.out 0 underlying42 af rfl rfl rfl rfl ?_|go_values|go_skip|go_guarded|go_step|go_upon)
  refine HAS.out.mono ?_
  rintro e w1 ⟨A,c,rfl,ho1,hb1⟩
  have HB1:=Lc (aa HB0.out hb1)
  have HQ21:=Lc (HQ2.out.below hb1 HQ2.out.lt)
  clear hb1 ho1
  have d0:=HQ21.out.cell
  have f0:=HQ21.out.frozen
  go_wp2_with fail
  have hR:=Lc (HQ21.out.set3 (.int .u64 0) (.bool false) (.int .i64 0))
  have e0:=hR.out.cell
  simp only[LB,Lm,Ll]at e0
  refine Li (v:= .tuple #[.agg #[.int .u64 0,.bool false,.int .i64 0],.int .i64 E]) (by simp[results,results45,go_sem,(e0 0),(e0 1),(e0 2)]) rfl ?_
  exact⟨rfl,(((HB1.out.setCell (p:=⟨(w.heap.size+2),0,none⟩) (by show w.heap.size<=(w.heap.size+2);omega) _).setCell (p:=⟨(w.heap.size+2),1,none⟩) (by show w.heap.size<=(w.heap.size+2);omega) _).setCell (p:=⟨(w.heap.size+2),2,none⟩) (by show w.heap.size<=(w.heap.size+2);omega) _)⟩
 case pos=>
 subst he
 rw[if_pos rfl]
 rw[if_pos rfl]at has
 have hln:=hln rfl
 have hri:=hri rfl
 have HAS:=Lc has
 clear has hE hP hs ho
 by_cases hz:O=0
 case neg=>
  rw[if_neg hz,if_neg hz]
  clear hln hri
  go_enter func45,ntmps45
  go_upto_region 1 with fail
  rw[HW0.out]
  try dsimp only[]
  repeat (first|refine ldb HQ0.out 0 underlying42 af rfl rfl rfl rfl ?_|go_values|go_skip|go_guarded|go_step|go_upon)
  refine HAS.out.mono ?_
  rintro e w1 ⟨A,c,rfl,ho1,hb1⟩
  have HB1:=Lc (aa HB0.out hb1)
  have HQ01:=Lc (HQ0.out.below hb1 HQ0.out.lt)
  have HQ11:=Lc (HQ1.out.below hb1 HQ1.out.lt)
  have HQ21:=Lc (HQ2.out.below hb1 HQ2.out.lt)
  clear hb1 ho1 a0
  have a0:=HQ11.out.cell
  go_upto_region 3 with fail
  try dsimp only[]
  repeat (first|refine ldb HQ01.out 0 underlying42 af rfl rfl rfl rfl ?_|go_values|go_skip|go_guarded|go_step|go_upon)
  refine(HOF.out _).mono ?_
  rintro e w2 ⟨rfl,hb2⟩
  have HB2:=Lc (aa HB1.out hb2)
  have HQ22:=Lc (HQ21.out.below hb2 HQ21.out.lt)
  clear hb2 a0
  have d0:=HQ22.out.cell
  have f0:=HQ22.out.frozen
  go_wp2_with fail
  have hR:=Lc (HQ22.out.set3 (.int .u64 0) (.bool false) (.int .i64 0))
  have e0:=hR.out.cell
  simp only[LB,Lm,Ll]at e0
  refine Li (v:= .tuple #[.agg #[.int .u64 0,.bool false,.int .i64 0],.int .i64 O]) (by simp[results,results45,go_sem,(e0 0),(e0 1),(e0 2)]) rfl ?_
  exact⟨rfl,(((HB2.out.setCell (p:=⟨(w.heap.size+2),0,none⟩) (by show w.heap.size<=(w.heap.size+2);omega) _).setCell (p:=⟨(w.heap.size+2),1,none⟩) (by show w.heap.size<=(w.heap.size+2);omega) _).setCell (p:=⟨(w.heap.size+2),2,none⟩) (by show w.heap.size<=(w.heap.size+2);omega) _)⟩
 case pos=>
 subst hz
 rw[if_pos rfl,if_pos rfl]
 have hcn:=fun W A c (h:Sl W A (P.flatMap Pr.cells))=>yQ m A P c cu fw W h hln hri
 obtain⟨C,hC⟩:∃C,dM m.ver P (dA P cu.key fw)=C:=⟨_,rfl⟩
 obtain⟨D,hD⟩:∃D,il P (dA P cu.key fw)=D:=⟨_,rfl⟩
 rw[hC,hD]at hcn ⊢
 have HCN:=Lc hcn
 clear hcn hC hD
 clear hln hri
 go_enter func45,ntmps45
 go_upto_region 1 with fail
 rw[HW0.out]
 try dsimp only[]
 repeat (first|refine ldb HQ0.out 0 underlying42 af rfl rfl rfl rfl ?_|go_values|go_skip|go_guarded|go_step|go_upon)
 refine HAS.out.mono ?_
 rintro e w1 ⟨A,c,rfl,ho1,hb1⟩
 have HB1:=Lc (aa HB0.out hb1)
 have HQ01:=Lc (HQ0.out.below hb1 HQ0.out.lt)
 have HQ11:=Lc (HQ1.out.below hb1 HQ1.out.lt)
 have HQ21:=Lc (HQ2.out.below hb1 HQ2.out.lt)
 have HSL:=Lc (aA ho1)
 clear hb1 ho1 a0
 have a0:=HQ11.out.cell
 go_upto_region 3 with fail
 try dsimp only[]
 repeat (first|refine ldb HQ01.out 0 underlying42 af rfl rfl rfl rfl ?_|go_values|go_skip|go_guarded|go_step|go_upon)
 refine(HOF.out _).mono ?_
 rintro e w2 ⟨rfl,hb2⟩
 have HB2:=Lc (aa HB1.out hb2)
 have HQ02:=Lc (HQ01.out.below hb2 HQ01.out.lt)
 have HQ12:=Lc (HQ11.out.below hb2 HQ11.out.lt)
 have HQ22:=Lc (HQ21.out.below hb2 HQ21.out.lt)
 have HSM:=Lc (HSL.out.below hb2)
 clear hb2 a0
 have a0:=HQ12.out.cell
 go_upto_region 6 with fail
 try dsimp only[]
 repeat (first|refine ldb HQ02.out 0 underlying42 af rfl rfl rfl rfl ?_|go_values|go_skip|go_guarded|go_step|go_upon)
 refine(HCN.out _ _ _ HSM.out).mono ?_
 rintro e w3 ⟨rfl,hb3⟩
 have HB3:=Lc (aa HB2.out hb3)
 have HQ23:=Lc (HQ22.out.below hb3 HQ22.out.lt)
 clear hb3 a0
 have d0:=HQ23.out.cell
 have f0:=HQ23.out.frozen
 go_wp2_with fail
 have hR:=Lc (HQ23.out.set3 (.int .u64 C.ver) (.bool C.on) (.int .i64 C.key))
 have e0:=hR.out.cell
 simp only[LB,Lm,Ll]at e0
 refine Li (v:= .tuple #[.agg #[.int .u64 C.ver,.bool C.on,.int .i64 C.key],.int .i64 D]) (by simp[results,results45,go_sem,(e0 0),(e0 1),(e0 2)]) rfl ?_
 exact⟨rfl,(((HB3.out.setCell (p:=⟨(w.heap.size+2),0,none⟩) (by show w.heap.size<=(w.heap.size+2);omega) _).setCell (p:=⟨(w.heap.size+2),1,none⟩) (by show w.heap.size<=(w.heap.size+2);omega) _).setCell (p:=⟨(w.heap.size+2),2,none⟩) (by show w.heap.size<=(w.heap.size+2);omega) _)⟩
theorem JH {P:Prop} (h:P:=by
 obtain⟨W0,hW0⟩:∃W,(((w.alloc (.cells m.row 42)).alloc (.cells #[.int .u64 cu.ver,.bool cu.on,.int .i64 cu.key] 44)).alloc (.cells #[.int .u64 0,.bool false,.int .i64 0] 44))=W:=⟨_,rfl⟩
 have hb0:Below w.heap.size w W0:=by rw[<-hW0];exact((((Lg _ _).alloc (by first|exact Lf _|(simp;done)|(simp;omega)) _).alloc (by first|exact Lf _|(simp;done)|(simp;omega)) _).alloc (by first|exact Lf _|(simp;done)|(simp;omega)) _)
 have bq0:Blk W0 w.heap.size 42 m.row:=by rw[<-hW0];exact(((Blk.new _ _ _).alloc _).alloc _)
 have HQ0:=Lc bq0
 have bq1:Blk W0 (w.heap.size+1) 44 #[.int .u64 cu.ver,.bool cu.on,.int .i64 cu.key]:=by rw[<-hW0];exact((aj (by simp)).alloc _)
 have HQ1:=Lc bq1
 have bq2:Blk W0 (w.heap.size+2) 44 #[.int .u64 0,.bool false,.int .i64 0]:=by rw[<-hW0];exact(aj (by simp))
 have HQ2:=Lc bq2
 have HW0:=Lc hW0
 have HB0:=Lc hb0
 clear hW0 hb0 bq0 bq1 bq2
 first|(have mz:=mk0;clear mz;have hmv:=rC m cu true W0 (hs.below HB0.out) ho)|(have mz:=mk1;clear mz;have hmv:=rC m cu false W0 (hs.below HB0.out) ho)
 first|(have mz:=mk0;clear mz;obtain⟨C,hC⟩:∃C,iR m cu true=C:=⟨_,rfl⟩)|(have mz:=mk1;clear mz;obtain⟨C,hC⟩:∃C,iR m cu false=C:=⟨_,rfl⟩)
 first|(have mz:=mk0;clear mz;obtain⟨D,hD⟩:∃D,iN m cu true=D:=⟨_,rfl⟩)|(have mz:=mk1;clear mz;obtain⟨D,hD⟩:∃D,iN m cu false=D:=⟨_,rfl⟩)
 rw[hC,hD]at hmv ⊢
 have HMV:=Lc hmv
 clear hmv hC hD hs ho
 have a0:=HQ1.out.cell
 first|go_enter func18,ntmps18|go_enter func20,ntmps20
 go_upto_region 1 with fail
 rw[HW0.out]
 try dsimp only[]
 repeat (first|refine ldb HQ0.out 0 underlying42 af rfl rfl rfl rfl ?_|go_values|go_skip|go_guarded|go_step|go_upon)
 refine HMV.out.mono ?_
 rintro e w1 ⟨rfl,hb1⟩
 have HB1:=Lc (aa HB0.out hb1)
 have HQ21:=Lc (HQ2.out.below hb1 HQ2.out.lt)
 clear hb1 a0
 have d0:=HQ21.out.cell
 have f0:=HQ21.out.frozen
 go_wp2_with fail
 have hR:=Lc (HQ21.out.set3 (.int .u64 C.ver) (.bool C.on) (.int .i64 C.key))
 have e0:=hR.out.cell
 simp only[LB,Lm,Ll]at e0
 first|(have mz:=mk0;clear mz;refine Li (v:= .tuple #[.agg #[.int .u64 C.ver,.bool C.on,.int .i64 C.key],.int .i64 D]) (by simp[results,results18,go_sem,(e0 0),(e0 1),(e0 2)]) rfl ?_)|(have mz:=mk1;clear mz;refine Li (v:= .tuple #[.agg #[.int .u64 C.ver,.bool C.on,.int .i64 C.key],.int .i64 D]) (by simp[results,results20,go_sem,(e0 0),(e0 1),(e0 2)]) rfl ?_)
 exact⟨rfl,(((HB1.out.setCell (p:=⟨(w.heap.size+2),0,none⟩) (by show w.heap.size<=(w.heap.size+2);omega) _).setCell (p:=⟨(w.heap.size+2),1,none⟩) (by show w.heap.size<=(w.heap.size+2);omega) _).setCell (p:=⟨(w.heap.size+2),2,none⟩) (by show w.heap.size<=(w.heap.size+2);omega) _)⟩):P:=h
theorem Ae (m:Mv) (cu:Cu) (w:World) (hs:MvAt w m) (ho:MvOk m):
  Calls prog 18 #[.agg m.row,.agg cu.row] w fun r w'=>r= .returned (.tuple #[.agg (iR m cu true).row,.int .i64 (iN m cu true)])/\Below w.heap.size w w':=by
 have mk0:=()
 exact JH
theorem AX (m:Mv) (cu:Cu) (w:World) (hs:MvAt w m) (ho:MvOk m):
  Calls prog 20 #[.agg m.row,.agg cu.row] w fun r w'=>r= .returned (.tuple #[.agg (iR m cu false).row,.int .i64 (iN m cu false)])/\Below w.heap.size w w':=by
 have mk1:=()
 exact JH
theorem wT (A:Option Addr) (P:List Pr) (c:Nat) (cu:Cu) (w:World) (hA:Sl w A (P.flatMap Pr.cells)) (hl:P.length<=16384) (hr:Ris P):
  Calls prog 46 #[.slice A P.length c,.agg cu.row] w fun r w'=>r= .returned (.tuple #[.agg #[.int .i64 (lw P cu.key).key,.int .i64 (lw P cu.key).val],.int .i64 (oF P cu.key)])/\Below w.heap.size w w':=by
 obtain⟨W0,hW0⟩:∃W,((w.alloc (.cells #[.int .u64 cu.ver,.bool cu.on,.int .i64 cu.key] 44)).alloc (.cells #[.int .i64 0,.int .i64 0] 55))=W:=⟨_,rfl⟩
 have hb0:Below w.heap.size w W0:=by rw[<-hW0];exact(((Lg _ _).alloc (by first|exact Lf _|(simp;done)|(simp;omega)) _).alloc (by first|exact Lf _|(simp;done)|(simp;omega)) _)
 have bq0:Blk W0 w.heap.size 44 #[.int .u64 cu.ver,.bool cu.on,.int .i64 cu.key]:=by rw[<-hW0];exact((Blk.new _ _ _).alloc _)
 have HQ0:=Lc bq0
 have bq1:Blk W0 (w.heap.size+1) 55 #[.int .i64 0,.int .i64 0]:=by rw[<-hW0];exact(aj (by simp))
 have HQ1:=Lc bq1
 have HW0:=Lc hW0
 have HB0:=Lc hb0
 clear hW0 hb0 bq0 bq1
 have hth:=pM A P c cu.key W0 (hA.below HB0.out) (by omega) hr
 have hbe:=fun W (h:Below W0.heap.size W0 W)=>ku A P c cu.key W ((hA.below HB0.out).below h) (by omega)
 have hlt:dZ P cu.key=true->bel P cu.key< P.length:=by
  intro h
  unfold dZ kJ at h
  simp at h
  exact h.1
 obtain⟨K,hK⟩:∃K,bel P cu.key=K:=⟨_,rfl⟩
 obtain⟨B,hB⟩:∃B,dZ P cu.key=B:=⟨_,rfl⟩
 unfold lw oF
 rw[hB]at hth hlt ⊢
 rw[hK]at hbe hlt ⊢
 have HTH:=Lc hth
 have HBE:=Lc hbe
 have HSL:=Lc (hA.below HB0.out)
 clear hth hbe hB hK hA hl hr
 have a0:=HQ0.out.cell
 cases B with
 |false=>
  clear hlt
  go_enter func46,ntmps46
  go_upto_region 1 with fail
  rw[HW0.out]
  go_wp2_with fail
  refine HTH.out.mono ?_
  rintro e w1 ⟨rfl,hb1⟩
  have HB1:=Lc (aa HB0.out hb1)
  have HQ11:=Lc (HQ1.out.below hb1 HQ1.out.lt)
  clear hb1 a0
  have d0:w1.cell? ⟨(w.heap.size+1),0,none⟩=some (.int .i64 0):=HQ11.out.cell 0
  have d1:w1.cell? ⟨(w.heap.size+1),1,none⟩=some (.int .i64 0):=HQ11.out.cell 1
  have f0:w1.frozen? ⟨(w.heap.size+1),0,none⟩=false:=HQ11.out.frozen 0
  have f1:w1.frozen? ⟨(w.heap.size+1),1,none⟩=false:=HQ11.out.frozen 1
  go_wp2_with fail
  have hR:=Lc (HQ11.out.set2 (.int .i64 0) (.int .i64 0))
  have e0:=hR.out.cell 0
  have e1:=hR.out.cell 1
  simp only[LB,Lm,Ll]at e0 e1
  refine Li (v:= .tuple #[.agg #[.int .i64 0,.int .i64 0],.int .i64 6]) (by simp[results,results46,go_sem,e0,e1]) rfl ?_
  exact⟨rfl,((HB1.out.setCell (p:=⟨(w.heap.size+1),0,none⟩) (by show w.heap.size<=(w.heap.size+1);omega) _).setCell (p:=⟨(w.heap.size+1),1,none⟩) (by show w.heap.size<=(w.heap.size+1);omega) _)⟩
 |true=>
  have hk2:=hlt rfl
  clear hlt
  have hq:(if true=true then P[K]! else(⟨0,0⟩:Pr))=P[K]'hk2:=by rw[if_pos rfl,getElem!_pos P K hk2]
  rw[hq]
  clear hq
  obtain⟨p,hp⟩:∃p,P[K]'hk2=p:=⟨_,rfl⟩
  rw[hp]
  have HP:=Lc hp
  clear hp
  go_enter func46,ntmps46
  go_upto_region 1 with fail
  rw[HW0.out]
  go_wp2_with fail
  refine HTH.out.mono ?_
  rintro e w1 ⟨rfl,hb1⟩
  have HB1:=Lc (aa HB0.out hb1)
  have HQ01:=Lc (HQ0.out.below hb1 HQ0.out.lt)
  have HQ11:=Lc (HQ1.out.below hb1 HQ1.out.lt)
  have HX1:=Lc hb1
  clear hb1 a0
  have a0:=HQ01.out.cell
  go_wp2_with fail
  refine(HBE.out _ HX1.out).mono ?_
  rintro e w2 ⟨rfl,hb2⟩
  have HB2:=Lc (aa HB1.out hb2)
  have HQ12:=Lc (HQ11.out.below hb2 HQ11.out.lt)
  obtain⟨b,off,rfl,hbl,c1,c2⟩:=HSL.out.prB (aa HX1.out hb2) K hk2
  have i0:(0:Int)<=(K:Int):=by omega
  have i1:(K:Int)< (P.length:Int):=by omega
  clear hb2 a0 HBE HTH HSL
  rw[HP.out]at c1 c2
  have d0:w2.cell? ⟨(w.heap.size+1),0,none⟩=some (.int .i64 0):=HQ12.out.cell 0
  have d1:w2.cell? ⟨(w.heap.size+1),1,none⟩=some (.int .i64 0):=HQ12.out.cell 1
  have f0:w2.frozen? ⟨(w.heap.size+1),0,none⟩=false:=HQ12.out.frozen 0
  have f1:w2.frozen? ⟨(w.heap.size+1),1,none⟩=false:=HQ12.out.frozen 1
  go_wp2_with fail
  have hR:=Lc (HQ12.out.set2 (.int .i64 p.key) (.int .i64 p.val))
  have e0:=hR.out.cell 0
  have e1:=hR.out.cell 1
  simp only[LB,Lm,Ll]at e0 e1
  refine Li (v:= .tuple #[.agg #[.int .i64 p.key,.int .i64 p.val],.int .i64 0]) (by simp[results,results46,go_sem,e0,e1]) rfl ?_
  exact⟨rfl,((HB2.out.setCell (p:=⟨(w.heap.size+1),0,none⟩) (by show w.heap.size<=(w.heap.size+1);omega) _).setCell (p:=⟨(w.heap.size+1),1,none⟩) (by show w.heap.size<=(w.heap.size+1);omega) _)⟩
theorem Ag (m:Mv) (cu:Cu) (w:World) (hs:MvAt w m) (ho:MvOk m):
  Calls prog 22 #[.agg m.row,.agg cu.row] w fun r w'=>r= .returned (.tuple #[.agg #[.int .i64 (mI m cu).key,.int .i64 (mI m cu).val],.int .i64 (pW m cu)])/\Below w.heap.size w w':=by
 obtain⟨W0,hW0⟩:∃W,(((w.alloc (.cells m.row 42)).alloc (.cells #[.int .u64 cu.ver,.bool cu.on,.int .i64 cu.key] 44)).alloc (.cells #[.int .i64 0,.int .i64 0] 55))=W:=⟨_,rfl⟩
 have hb0:Below w.heap.size w W0:=by rw[<-hW0];exact((((Lg _ _).alloc (by first|exact Lf _|(simp;done)|(simp;omega)) _).alloc (by first|exact Lf _|(simp;done)|(simp;omega)) _).alloc (by first|exact Lf _|(simp;done)|(simp;omega)) _)
 have bq0:Blk W0 w.heap.size 42 m.row:=by rw[<-hW0];exact(((Blk.new _ _ _).alloc _).alloc _)
 have HQ0:=Lc bq0
 have bq1:Blk W0 (w.heap.size+1) 44 #[.int .u64 cu.ver,.bool cu.on,.int .i64 cu.key]:=by rw[<-hW0];exact((aj (by simp)).alloc _)
 have HQ1:=Lc bq1
 have bq2:Blk W0 (w.heap.size+2) 55 #[.int .i64 0,.int .i64 0]:=by rw[<-hW0];exact(aj (by simp))
 have HQ2:=Lc bq2
 have HW0:=Lc hW0
 have HB0:=Lc hb0
 clear hW0 hb0 bq0 bq1 bq2
 have has:=gK m W0 (hs.below HB0.out) ho
 have hln:=fG ho
 have hri:=fun he:aQ m=0=>jI he
 have hof:=fun W=>yz m cu W
 unfold mI pW
 rw[xL]
 obtain⟨E,hE⟩:∃E,aQ m=E:=⟨_,rfl⟩
 rw[hE]at has hln hri ⊢
 obtain⟨O,hO⟩:∃O,JC m cu=O:=⟨_,rfl⟩
 rw[hO]at hof ⊢
 obtain⟨P,hP⟩:∃P,allM m=P:=⟨_,rfl⟩
 rw[hP]at has hln hri ⊢
 have HOF:=Lc hof
 clear hof hO
 have a0:=HQ1.out.cell
 by_cases he:E=0
 case neg=>
  rw[if_neg he]
  rw[if_neg he]at has
  rw[if_neg he,if_neg he]
  have HAS:=Lc has
  clear has hE hP hln hri hs ho
  clear a0
  go_enter func22,ntmps22
  go_upto_region 1 with fail
  rw[HW0.out]
  try dsimp only[]
  repeat (first|refine ldb HQ0.out 0 underlying42 af rfl rfl rfl rfl ?_|go_values|go_skip|go_guarded|go_step|go_upon)
  refine HAS.out.mono ?_
  rintro e w1 ⟨A,c,rfl,ho1,hb1⟩
  have HB1:=Lc (aa HB0.out hb1)
  have HQ21:=Lc (HQ2.out.below hb1 HQ2.out.lt)
  clear hb1 ho1
  have d0:w1.cell? ⟨(w.heap.size+2),0,none⟩=some (.int .i64 0):=HQ21.out.cell 0
  have d1:w1.cell? ⟨(w.heap.size+2),1,none⟩=some (.int .i64 0):=HQ21.out.cell 1
  have f0:w1.frozen? ⟨(w.heap.size+2),0,none⟩=false:=HQ21.out.frozen 0
  have f1:w1.frozen? ⟨(w.heap.size+2),1,none⟩=false:=HQ21.out.frozen 1
  go_wp2_with fail
  have hR:=Lc (HQ21.out.set2 (.int .i64 0) (.int .i64 0))
  have e0:=hR.out.cell 0
  have e1:=hR.out.cell 1
  simp only[LB,Lm,Ll]at e0 e1
  refine Li (v:= .tuple #[.agg #[.int .i64 0,.int .i64 0],.int .i64 E]) (by simp[results,results22,go_sem,e0,e1]) rfl ?_
  exact⟨rfl,((HB1.out.setCell (p:=⟨(w.heap.size+2),0,none⟩) (by show w.heap.size<=(w.heap.size+2);omega) _).setCell (p:=⟨(w.heap.size+2),1,none⟩) (by show w.heap.size<=(w.heap.size+2);omega) _)⟩
 case pos=>
 subst he
 rw[if_pos rfl]
 rw[if_pos rfl]at has
 have hln:=hln rfl
 have hri:=hri rfl
 have HAS:=Lc has
 clear has hE hP hs ho
 by_cases hz:O=0
 case neg=>
  rw[if_neg hz,if_neg hz]
  clear hln hri
  go_enter func22,ntmps22
  go_upto_region 1 with fail
  rw[HW0.out]
  try dsimp only[]
  repeat (first|refine ldb HQ0.out 0 underlying42 af rfl rfl rfl rfl ?_|go_values|go_skip|go_guarded|go_step|go_upon)
  refine HAS.out.mono ?_
  rintro e w1 ⟨A,c,rfl,ho1,hb1⟩
  have HB1:=Lc (aa HB0.out hb1)
  have HQ01:=Lc (HQ0.out.below hb1 HQ0.out.lt)
  have HQ11:=Lc (HQ1.out.below hb1 HQ1.out.lt)
  have HQ21:=Lc (HQ2.out.below hb1 HQ2.out.lt)
  clear hb1 ho1 a0
  have a0:=HQ11.out.cell
  go_upto_region 3 with fail
  try dsimp only[]
  repeat (first|refine ldb HQ01.out 0 underlying42 af rfl rfl rfl rfl ?_|go_values|go_skip|go_guarded|go_step|go_upon)
  refine(HOF.out _).mono ?_
  rintro e w2 ⟨rfl,hb2⟩
  have HB2:=Lc (aa HB1.out hb2)
  have HQ22:=Lc (HQ21.out.below hb2 HQ21.out.lt)
  clear hb2 a0
  have d0:w2.cell? ⟨(w.heap.size+2),0,none⟩=some (.int .i64 0):=HQ22.out.cell 0
  have d1:w2.cell? ⟨(w.heap.size+2),1,none⟩=some (.int .i64 0):=HQ22.out.cell 1
  have f0:w2.frozen? ⟨(w.heap.size+2),0,none⟩=false:=HQ22.out.frozen 0
  have f1:w2.frozen? ⟨(w.heap.size+2),1,none⟩=false:=HQ22.out.frozen 1
  go_wp2_with fail
  have hR:=Lc (HQ22.out.set2 (.int .i64 0) (.int .i64 0))
  have e0:=hR.out.cell 0
  have e1:=hR.out.cell 1
  simp only[LB,Lm,Ll]at e0 e1
  refine Li (v:= .tuple #[.agg #[.int .i64 0,.int .i64 0],.int .i64 O]) (by simp[results,results22,go_sem,e0,e1]) rfl ?_
  exact⟨rfl,((HB2.out.setCell (p:=⟨(w.heap.size+2),0,none⟩) (by show w.heap.size<=(w.heap.size+2);omega) _).setCell (p:=⟨(w.heap.size+2),1,none⟩) (by show w.heap.size<=(w.heap.size+2);omega) _)⟩
 case pos=>
 subst hz
 rw[if_pos rfl,if_pos rfl]
 have hcn:=fun W A c (h:Sl W A (P.flatMap Pr.cells))=>wT A P c cu W h hln hri
 obtain⟨C,hC⟩:∃C,lw P cu.key=C:=⟨_,rfl⟩
 obtain⟨D,hD⟩:∃D,oF P cu.key=D:=⟨_,rfl⟩
 rw[hC,hD]at hcn ⊢
 have HCN:=Lc hcn
 clear hcn hC hD
 clear hln hri
 go_enter func22,ntmps22
 go_upto_region 1 with fail
 rw[HW0.out]
 try dsimp only[]
 repeat (first|refine ldb HQ0.out 0 underlying42 af rfl rfl rfl rfl ?_|go_values|go_skip|go_guarded|go_step|go_upon)
 refine HAS.out.mono ?_
 rintro e w1 ⟨A,c,rfl,ho1,hb1⟩
 have HB1:=Lc (aa HB0.out hb1)
 have HQ01:=Lc (HQ0.out.below hb1 HQ0.out.lt)
 have HQ11:=Lc (HQ1.out.below hb1 HQ1.out.lt)
 have HQ21:=Lc (HQ2.out.below hb1 HQ2.out.lt)
 have HSL:=Lc (aA ho1)
 clear hb1 ho1 a0
 have a0:=HQ11.out.cell
 go_upto_region 3 with fail
 try dsimp only[]
 repeat (first|refine ldb HQ01.out 0 underlying42 af rfl rfl rfl rfl ?_|go_values|go_skip|go_guarded|go_step|go_upon)
 refine(HOF.out _).mono ?_
 rintro e w2 ⟨rfl,hb2⟩
 have HB2:=Lc (aa HB1.out hb2)
 have HQ02:=Lc (HQ01.out.below hb2 HQ01.out.lt)
 have HQ12:=Lc (HQ11.out.below hb2 HQ11.out.lt)
 have HQ22:=Lc (HQ21.out.below hb2 HQ21.out.lt)
 have HSM:=Lc (HSL.out.below hb2)
 clear hb2 a0
 have a0:=HQ12.out.cell
 go_upto_region 6 with fail
 go_wp2_with fail
 refine(HCN.out _ _ _ HSM.out).mono ?_
 rintro e w3 ⟨rfl,hb3⟩
 have HB3:=Lc (aa HB2.out hb3)
 have HQ23:=Lc (HQ22.out.below hb3 HQ22.out.lt)
 clear hb3 a0
 have d0:w3.cell? ⟨(w.heap.size+2),0,none⟩=some (.int .i64 0):=HQ23.out.cell 0
 have d1:w3.cell? ⟨(w.heap.size+2),1,none⟩=some (.int .i64 0):=HQ23.out.cell 1
 have f0:w3.frozen? ⟨(w.heap.size+2),0,none⟩=false:=HQ23.out.frozen 0
 have f1:w3.frozen? ⟨(w.heap.size+2),1,none⟩=false:=HQ23.out.frozen 1
 go_wp2_with fail
 have hR:=Lc (HQ23.out.set2 (.int .i64 C.key) (.int .i64 C.val))
 have e0:=hR.out.cell 0
 have e1:=hR.out.cell 1
 simp only[LB,Lm,Ll]at e0 e1
 refine Li (v:= .tuple #[.agg #[.int .i64 C.key,.int .i64 C.val],.int .i64 D]) (by simp[results,results22,go_sem,e0,e1]) rfl ?_
 exact⟨rfl,((HB3.out.setCell (p:=⟨(w.heap.size+2),0,none⟩) (by show w.heap.size<=(w.heap.size+2);omega) _).setCell (p:=⟨(w.heap.size+2),1,none⟩) (by show w.heap.size<=(w.heap.size+2);omega) _)⟩
def sF (ver:Int) (P:List Pr) (k:Nat):Cu:=if k< P.length then⟨ver,true,(P[k]!).key⟩else⟨ver,false,0⟩
theorem Ei {s t:Ss} (h:SsLike s t):bB t=bB s:=by
 rcases s with⟨seg,ws,ks,vs,cs,laid,wA,kA,vA,cA,wc,kc,vc,cc⟩
 rcases t with⟨seg',ws',ks',vs',cs',laid',wA',kA',vA',cA',wc',kc',vc',cc'⟩
 obtain⟨e1,e2,e3,e4,e5,e6,_⟩:=h
 dsimp only at e1 e2 e3 e4 e5 e6
 subst e1 e2 e3 e4 e5 e6
 rfl
theorem BG {s t:Ss} (h:SsLike s t) (k:Nat):dH t k=dH s k:=by
 rcases s with⟨seg,ws,ks,vs,cs,laid,wA,kA,vA,cA,wc,kc,vc,cc⟩
 rcases t with⟨seg',ws',ks',vs',cs',laid',wA',kA',vA',cA',wc',kc',vc',cc'⟩
 obtain⟨e1,e2,e3,e4,e5,e6,_⟩:=h
 dsimp only at e1 e2 e3 e4 e5 e6
 subst e1 e2 e3 e4 e5 e6
 rfl
theorem nz {s t:Ss} (h:SsLike s t):bu t=bu s:=by
 rcases s with⟨seg,ws,ks,vs,cs,laid,wA,kA,vA,cA,wc,kc,vc,cc⟩
 rcases t with⟨seg',ws',ks',vs',cs',laid',wA',kA',vA',cA',wc',kc',vc',cc'⟩
 obtain⟨e1,e2,e3,e4,e5,e6,_⟩:=h
 dsimp only at e1 e2 e3 e4 e5 e6
 subst e1 e2 e3 e4 e5 e6
 rfl
theorem Ex {s t:Ss} (h:SsLike s t) (c:Cfg):uj c t=uj c s:=by
 rcases s with⟨seg,ws,ks,vs,cs,laid,wA,kA,vA,cA,wc,kc,vc,cc⟩
 rcases t with⟨seg',ws',ks',vs',cs',laid',wA',kA',vA',cA',wc',kc',vc',cc'⟩
 obtain⟨e1,e2,e3,e4,e5,e6,_⟩:=h
 dsimp only at e1 e2 e3 e4 e5 e6
 subst e1 e2 e3 e4 e5 e6
 rfl
theorem ze {s t:Ss} (h:SsLike s t):ow t=ow s:=by
 rcases s with⟨seg,ws,ks,vs,cs,laid,wA,kA,vA,cA,wc,kc,vc,cc⟩
 rcases t with⟨seg',ws',ks',vs',cs',laid',wA',kA',vA',cA',wc',kc',vc',cc'⟩
 obtain⟨e1,e2,e3,e4,e5,e6,_⟩:=h
 dsimp only at e1 e2 e3 e4 e5 e6
 subst e1 e2 e3 e4 e5 e6
 rfl
theorem nG {s t:Ss} (h:SsLike s t) (F:Nat):∀k n,gZ t F k n=gZ s F k n
 |0,n=>by unfold gZ;exact BG h _
 |k+1,n=>by unfold gZ;rw[nG h F k,nG h F k]
theorem CF {s t:Ss} (h:SsLike s t):BN t=BN s/\Bf t=Bf s:=by
 have ht:ib t=ib s:=by funext lv n;unfold ib;exact nG h _ _ _
 unfold BN Bf
 rw[ht,ze h]
 exact⟨rfl,rfl⟩
theorem uP {s t:Ss} (h:SsLike s t) (c:Cfg):fO c t=fO c s:=by
 unfold fO qB mf
 rw[Ex h,Ei h,nz h]
theorem zB {s t:Ss} {x y:Ix} (h:SsLike s t) (k:IxLike x y) (c:Cfg):fH c t y=fH c s x:=by
 unfold fH JA
 rw[uP h,ze h,(CF h).1,(CF h).2,k.lev,k.mx,k.ct]
theorem BV {m n:Mv} (h:MvLike m n):MvLike (eZ m) (eZ n):=by
 unfold eZ
 rw[h.tag]
 split
 ·exact⟨h.tag,h.ver,h.pc,h.ps,rfl,gJ,om,rfl,rfl,rfl⟩
 split
 ·exact⟨h.tag,h.ver,rfl,gJ,h.bc,h.bs,h.bx,rfl,rfl,rfl⟩
 ·exact⟨h.tag,h.ver,rfl,gJ,rfl,gJ,om,h.lc,h.lR,h.ln⟩
theorem yf {a n b k:Mv} (h:MvLike a n) (h2:MvLike b k):fB n k=fB a b:=by
 rw[kH h2,kg,kH h,kg]
theorem uT {m n:Mv} (h:MvLike m n):aQ n=aQ m:=by
 have hb:dX n=dX m:=by unfold dX;rw[h.tag,h.pc,h.bc,h.lc,h.lR,uP h.ps,zB h.bs h.bx]
 have hc:lh n=lh m:=by unfold lh;rw[h.tag,h.pc,h.bc,h.lc]
 unfold aQ
 rw[hb,hc,h.tag,yf h (BV h)]
theorem jN {m n:Mv} (h:MvLike m n):allM n=allM m:=by
 unfold allM
 rw[h.tag,h.lR,nz h.ps,nz h.bs]
theorem rH {m n:Mv} (h:MvLike m n) (c:Cu):cO n c=cO m c:=by unfold cO;rw[uT h,h.ver]
theorem iB {m n:Mv} (h:MvLike m n) (k:Int):iX n k=iX m k/\iV n k=iV m k:=by unfold iX iV;rw[uT h,jN h,h.ver];exact⟨rfl,rfl⟩
theorem kF {m n:Mv} (h:MvLike m n) (c:Cu) (fw:Bool):iR n c fw=iR m c fw/\iN n c fw=iN m c fw:=by unfold iR iN;rw[rH h,jN h,h.ver];exact⟨rfl,rfl⟩
theorem ry {m n:Mv} (h:MvLike m n) (c:Cu):mI n c=mI m c/\pW n c=pW m c:=by unfold mI pW;rw[rH h,jN h];exact⟨rfl,rfl⟩
theorem AB {m n:Mv} (h:MvLike m n):fB n m=true:=by
 rw[kg,kH h,oO]
 exact⟨rfl,rfl,⟨rfl,by rw[lQ];exact⟨rfl,rfl,rfl,rfl,rfl,rfl⟩⟩,⟨rfl,by rw[lQ];exact⟨rfl,rfl,rfl,rfl,rfl,rfl⟩,by rw[o9];exact⟨rfl,rfl,rfl⟩⟩,rfl,rfl,rfl⟩
def FW (a:Answ) (e:Int) (b:Bool) (w:World) (r:Ending) (w':World):Prop:=
 ∃A c,r= .returned (.tuple #[.agg #[.int .i64 a.pair.key,.int .i64 a.pair.val,.int .i64 a.n,.slice A a.pairs.length c],.int .i64 e,.bool b])/\Fr w' w.heap.size 55 A c a.pairs/\Below w.heap.size w w'
theorem four {w:World} {b:Nat} {t:TypeId} {x0 x1 x2 x3:Value} (h:Blk w b t #[x0,x1,x2,x3]) (y0 y1 y2 y3:Value):
  Blk ((((w.setCell ⟨b,0,none⟩ y0).setCell ⟨b,1,none⟩ y1).setCell ⟨b,2,none⟩ y2).setCell ⟨b,3,none⟩ y3) b t #[y0,y1,y2,y3]:=by
 have:=(((h.set_ 0 y0).set_ 1 y1).set_ 2 y2).set_ 3 y3
 simpa using this
theorem Jw {w w':World} {B b:Nat} (h:Below B w w') (hb:B<=b) (y0 y1 y2 y3:Value):
  Below B w ((((w'.setCell ⟨b,0,none⟩ y0).setCell ⟨b,1,none⟩ y1).setCell ⟨b,2,none⟩ y2).setCell ⟨b,3,none⟩ y3):=
 (((h.setCell (p:=⟨b,0,none⟩) hb _).setCell (p:=⟨b,1,none⟩) hb _).setCell (p:=⟨b,2,none⟩) hb _).setCell (p:=⟨b,3,none⟩) hb _
theorem KF {w:World} {g:Nat} {t:TypeId} {cs:Array Value} (h:g=w.heap.size):Blk (w.alloc (.cells cs t)) g t cs:=h ▸ Blk.new w t cs
theorem xO (A:Option Addr) (l:List Pr) (c:Nat) (key:Int) (w:World) (hA:Sl w A (l.flatMap Pr.cells)) (hl:l.length<=1000000) (hr:Hid (Ris l)):
  Calls prog 69 #[.slice A l.length c,.agg #[.int .u8 8,.int .i64 key,.int .i64 0,.int .i64 0,.int .i64 0,.slice none 0 0]] w (FW ⟨⟨0,0⟩,bel l key,[]⟩ 0 true w):=by
 obtain⟨W0,hW0⟩:∃W,((w.alloc (.cells #[.slice A l.length c] 47)).alloc (.cells #[.int .u8 8,.int .i64 key,.int .i64 0,.int .i64 0,.int .i64 0,.slice none 0 0] 113)).alloc (.cells #[.int .i64 0,.int .i64 0,.int .i64 0,.slice none 0 0] 109)=W:=⟨_,rfl⟩
 have hb0:Below w.heap.size w W0:=by rw[<-hW0];exact(((Lg _ _).alloc (Lf _) _).alloc (by simp) _).alloc (by simp;omega) _
 have b1:Blk W0 w.heap.size 47 #[.slice A l.length c]:=by rw[<-hW0];exact((Blk.new _ _ _).alloc _).alloc _
 have b2:Blk W0 (w.heap.size+1) 113 #[.int .u8 8,.int .i64 key,.int .i64 0,.int .i64 0,.int .i64 0,.slice none 0 0]:=by rw[<-hW0];exact(KF (by simp)).alloc _
 have b3:Blk W0 (w.heap.size+1+1) 109 #[.int .i64 0,.int .i64 0,.int .i64 0,.slice none 0 0]:=by rw[<-hW0];exact KF (by simp)
 have hmf:∀(fn:Fn) (first cap:Array Value) (w:World),(Instr.makeFunc fn first cap).run prog w= .ok (.func fn first cap) w:=fun _ _ _ _=>rfl
 have q1:=b1.cell
 have q2:=b2.cell
 have HRK:=Lc (GV A l c key W0 (hA.below hb0) (by omega) hr)
 have HW0:=Lc hW0
 have HB0:=Lc hb0
 have H1:=Lc b1
 have H2:=Lc b2
 have H3:=Lc b3
 obtain⟨K,hK⟩:∃K,bel l key=K:=⟨_,rfl⟩
 rw[hK]at HRK ⊢
 clear hW0 hb0 b1 b2 b3 hK hA hl hr
 go_enter func69,ntmps69
 go_upto_region 1 with fail
 rw[HW0.out]
 go_wp2_with fail
 refine HRK.out.mono ?_
 rintro e w1 ⟨rfl,hb1⟩
 have b1:=H1.out.below hb1 H1.out.lt
 have b2:=H2.out.below hb1 H2.out.lt
 have b3:=H3.out.below hb1 H3.out.lt
 have q1:=b1.cell
 have q2:=b2.cell
 have q3:=b3.cell
 have r3:=b3.frozen
 have l3:=b3.lt
 have HB1:=Lc (aa HB0.out hb1)
 have HZ:=Lc (four b3 (.int .i64 0) (.int .i64 0) (.int .i64 K) (.slice none 0 0))
 have HBZ:=Lc (Jw HB1.out (show w.heap.size<=w.heap.size+1+1 by omega) (.int .i64 0) (.int .i64 0) (.int .i64 K) (.slice none 0 0))
 clear b1 b2 b3 hb1
 go_wp2_with fail
 have pp:=HZ.out.cell
 refine Li (v:= .tuple #[.agg #[.int .i64 0,.int .i64 0,.int .i64 K,.slice none 0 0],.int .i64 0,.bool true]) (by simp[results,results69,go_sem,pp]) rfl ?_
 exact⟨none,0,rfl,Fr.nil,HBZ.out⟩
theorem zC (A:Option Addr) (l:List Pr) (c:Nat) (key:Int) (w:World) (hA:Sl w A (l.flatMap Pr.cells)) (hl:l.length<=16384) (hr:Ris l):
  Calls prog 54 #[.int .i64 16384,.slice A l.length c,.agg #[.int .u8 8,.int .i64 key,.int .i64 0,.int .i64 0,.int .i64 0,.slice none 0 0]] w fun r w'=>(∃B d A2 c2,r= .returned (.tuple #[.slice B l.length d,.agg #[.int .i64 0,.int .i64 0,.int .i64 (bel l key),.slice A2 0 c2],.int .i64 0])/\Below w.heap.size w w'):=by
 obtain⟨W0,hW0,hb0,b5,b7⟩:=yJ w 113 #[.int .u8 8,.int .i64 key,.int .i64 0,.int .i64 0,.int .i64 0,.slice none 0 0] 109 #[.int .i64 0,.int .i64 0,.int .i64 0,.slice none 0 0]
 have hck:=zi 16384 A l c W0 (hA.below hb0) (by omega)
 have h1:kW 16384 l=0:=by
  unfold kW
  rw[if_neg (by omega),if_neg (by rintro(h|h);omega;exact h hr)]
 rw[h1]at hck
 have HCK:=Lc hck
 have HAK:=Lc (fun W (h:Below w.heap.size w W)=>xO A l c key W (hA.below h) (by omega) (Lc hr))
 have HCL:=Lc (fun W (h:Below w.heap.size w W)=>EN A l c W (hA.below h) (by omega))
 obtain⟨K,hK⟩:∃K,bel l key=K:=⟨_,rfl⟩
 rw[hK]at HAK ⊢
 have HW0:=Lc hW0
 have HB0:=Lc hb0
 have H5:=Lc b5
 have H7:=Lc b7
 clear hW0 hb0 b5 b7 hck h1 hK hA hl hr
 go_enter func54,ntmps54
 go_upto_region 1 with fail
 rw[HW0.out]
 go_wp2_with fail
 refine HCK.out.mono ?_
 rintro e w1 ⟨rfl,hb1⟩
 have HB1:=Lc (aa HB0.out hb1)
 have H51:=Lc (H5.out.below hb1 H5.out.lt)
 have H71:=Lc (H7.out.below hb1 H7.out.lt)
 have q5:=H51.out.cell
 clear hb1
 go_wp2_with fail
 refine(HAK.out _ HB1.out).mono ?_
 rintro e w2 ⟨A2,c2,rfl,hf,hb2⟩
 have HB2:=Lc (aa HB1.out hb2)
 have H72:=Lc (H71.out.below hb2 H71.out.lt)
 clear q5 hb2 hf
 go_upto_region 6 with fail
 obtain⟨W4,hW4⟩:∃W,w2.alloc (.cells #[.int .i64 0,.int .i64 0,.int .i64 K,.slice A2 0 c2] 109)=W:=⟨_,rfl⟩
 have b4:Blk W4 w2.heap.size 109 #[.int .i64 0,.int .i64 0,.int .i64 K,.slice A2 0 c2]:=by rw[<-hW4];exact Blk.new _ _ _
 have hb4:Below w2.heap.size w2 W4:=by rw[<-hW4];exact(Lg _ _).alloc (Lf _) _
 have HB4:=Lc (aa HB2.out hb4)
 have H7:=Lc (H72.out.below hb4 H72.out.lt)
 have q4:=b4.cell
 have lg:=b4.lt
 rw[hW4]
 clear hW4 b4 hb4
 refine aD (by kernel_rfl) 4 [.v [] fun v=>v 0= .slice A l.length c,.v [0] fun v=>∃B d,v 1= .slice B l.length d,.v [] fun v=>v 2= .agg #[.int .i64 0,.int .i64 0,.int .i64 K,.slice A2 0 c2],.v [1] fun v=>∃B d,v 3= .slice B l.length d] [2,3] rfl rfl (by kernel_rfl) (by kernel_rfl) ⟨_,fun v=>by simp only[nM,Act.put,LM,Mi,Mc];rfl,?_⟩
 simp only[iy,og,dD,dG,fQ,mO,tw_none,L8,List.range.loop,MS,Lm,Ll,TEnt.v,TEnt.w,RB,RM,M9,Nh,decide_true,decide_false,Mt,MH,Me,Mf,if_true,if_false,↓reduceIte,LW,List.length_cons,List.length_nil]
 refine⟨?_,?_,?_,?_,fun v W hb=>?_⟩
 all_goals try intro v W K hb hK
 all_goals have hc:=(aL hb).1
 all_goals try (go_wp2_with fail;exact hK _ _ (Lg _ _) rfl)
 ·intro h0
  rw[h0]at hK ⊢
  go_wp2_with (go_at_call 70;refine(HCL.out _ (aa HB4.out hb)).mono ?_;rintro e1 W1 ⟨B,d,rfl,hf,hb1⟩)
  exact hK _ _ hb1 ⟨_,_,rfl⟩
 ·intro h1
  obtain⟨B,d,h1⟩:=h1
  rw[h1]at hK ⊢
  go_wp2_with fail
  exact hK _ _ (Lg _ _) ⟨_,_,rfl⟩
 intro h2 h3
 obtain⟨B,d,h3⟩:=h3
 rw[h2,h3]
 have q:=(H7.out.below hb H7.out.lt).cell
 have r:=(H7.out.below hb H7.out.lt).frozen
 have l7:=(H7.out.below hb H7.out.lt).lt
 have HZ:=Lc (four (H7.out.below hb H7.out.lt) (.int .i64 0) (.int .i64 0) (.int .i64 K) (.slice A2 0 c2))
 have HBZ:=Lc (Jw (aa HB4.out hb) (show w.heap.size<=w.heap.size+1 by omega) (.int .i64 0) (.int .i64 0) (.int .i64 K) (.slice A2 0 c2))
 clear hc q4 lg hb h2 h3
 try simp only[og]
 refine wpOp_step rfl fun K1 hK1=>?_
 go_wp2_with fail
 try refine hK1 _ _ ?_
 refine wpOp_step rfl fun K2 hK2=>?_
 go_wp2_with fail
 try refine hK2 _ _ ?_
 try go_wp2_with fail
 have pp:=HZ.out.cell
 refine Li (v:= .tuple #[.slice B l.length d,.agg #[.int .i64 0,.int .i64 0,.int .i64 K,.slice A2 0 c2],.int .i64 0]) (by simp[results,results54,go_sem,pp]) rfl ?_
 exact⟨⟨B,d,A2,c2,rfl⟩,HBZ.out⟩
theorem kE (gp:Nat) (v:Int) (on:Bool) (k:Int) (A:Option Addr) (l:List Pr) (c:Nat) (key:Int) (w:World) (hp:Blk w gp 82 (jd v on k A l c)) (hA:Sl w A (l.flatMap Pr.cells)) (hlc:l.length<=c) (hl:l.length<=16384) (hr:Ris l):
  Calls prog 30 #[.pointer (some ⟨gp,0,none⟩),.int .i64 key] w fun r w'=>r= .returned (.int .i64 (bel l key))/\Below w.heap.size w w':=by
 have hdo:=zC A l c key w hA hl hr
 obtain⟨K,hK⟩:∃K,bel l key=K:=⟨_,rfl⟩
 rw[hK]at hdo ⊢
 have HDO:=Lc hdo
 have p3:w.cell? ⟨gp,3,none⟩=some (.slice A l.length c):=hp.cell 3
 clear hdo hK hp hA hlc hl hr
 go_enter func30,ntmps30
 go_wp2_with fail
 refine HDO.out.mono ?_
 rintro e w1 ⟨A1,c1,A2,c2,rfl,hb1⟩
 have HB1:=Lc hb1
 clear hb1 p3
 go_wp2_with fail
 go_ret
 exact⟨rfl,HB1.out.alloc HB1.out.size _⟩
theorem Cj (gp:Nat) (v:Int) (on:Bool) (k:Int) (A:Option Addr) (l:List Pr) (c:Nat) (j:Int) (w:World) (hp:Blk w gp 82 (jd v on k A l c)) (hj:¬(0<=j/\j< l.length)):
  Calls prog 44 #[.pointer (some ⟨gp,0,none⟩),.int .i64 j] w fun r w'=>r= .returned (.tuple #[.agg lF.row,.int .i64 6])/\Below w.heap.size w w':=by
 have p3:w.cell? ⟨gp,3,none⟩=some (.slice A l.length c):=hp.cell 3
 have lp:=hp.lt
 have hbz:∀x y z:Value,Below w.heap.size w ((((w.alloc (.cells #[.int .u64 0,.bool false,.int .i64 0] 44)).setCell ⟨w.heap.size,0,none⟩ x).setCell ⟨w.heap.size,1,none⟩ y).setCell ⟨w.heap.size,2,none⟩ z):=fun x y z=>((((Lg _ _).alloc (Lf _) _).setCell (p:=⟨w.heap.size,0,none⟩) (Lf _) x).setCell (p:=⟨w.heap.size,1,none⟩) (Lf _) y).setCell (p:=⟨w.heap.size,2,none⟩) (Lf _) z
 have hb0:Below w.heap.size w (w.alloc (.cells #[.int .u64 0,.bool false,.int .i64 0] 44)):=(Lg _ _).alloc (Lf _) _
 have HBZ:=Lc hbz
 have HB0:=Lc hb0
 clear hbz hb0 hp
 by_cases h0:j< 0
 ·clear hj
  go_enter func44,ntmps44
  go_wp2_with fail
  refine Li (v:= .tuple #[.agg #[.int .u64 0,.bool false,.int .i64 0],.int .i64 6]) (by simp[results,results44,go_sem]) rfl ?_
  first|exact⟨rfl,HB0.out⟩|exact⟨rfl,HBZ.out _ _ _⟩
 ·have h1:(l.length:Int)<=j:=by omega
  clear hj
  go_enter func44,ntmps44
  go_wp2_with fail
  refine Li (v:= .tuple #[.agg #[.int .u64 0,.bool false,.int .i64 0],.int .i64 6]) (by simp[results,results44,go_sem]) rfl ?_
  first|exact⟨rfl,HB0.out⟩|exact⟨rfl,HBZ.out _ _ _⟩
theorem vX (gp:Nat) (v:Int) (on:Bool) (k:Int) (A:Option Addr) (l:List Pr) (c:Nat) (j:Nat) (w:World) (hp:Blk w gp 82 (jd v on k A l c)) (hA:Sl w A (l.flatMap Pr.cells)) (hj:j< l.length) (hn:∀a,A=some a->a.block≠gp):
  Calls prog 44 #[.pointer (some ⟨gp,0,none⟩),.int .i64 (j:Nat)] w fun r w'=>r= .returned (.tuple #[.agg #[.int .u64 v,.bool true,.int .i64 (l[j]'hj).key],.int .i64 0])/\Mod (fun b=>b=gp) w w'/\Blk w' gp 82 (jd v true (l[j]'hj).key A l c):=by
 obtain⟨b,off,rfl,hbl,c1,c2⟩:=hA.prB (Lg _ w) j hj
 have nb:b≠gp:=hn _ rfl
 have p0:=hp.cell
 have f1:w.frozen? ⟨gp,1,none⟩=false:=hp.frozen 1
 have f2:w.frozen? ⟨gp,2,none⟩=false:=hp.frozen 2
 have lp:=hp.lt
 have i0:(0:Int)<=(j:Int):=by omega
 have i1:(j:Int)< (l.length:Int):=by omega
 have HP:=Lc hp
 generalize (l[j]'hj)=p at*
 clear hA hn hj hp c2
 go_enter func44,ntmps44
 go_wp2_with fail
 have hm:Mod (fun b=>b=gp) w (((w.setCell ⟨gp,1,none⟩ (.bool true)).setCell ⟨gp,2,none⟩ (.int .i64 p.key)).alloc (.cells #[.int .u64 v,.bool true,.int .i64 p.key] 44)):=(((Mod.refl (fun b=>b=gp) w).setCell (p:=⟨gp,1,none⟩) rfl _).setCell (p:=⟨gp,2,none⟩) rfl _).ext ((Lg _ _).alloc (Lf _) _)
 have hb:Blk (((w.setCell ⟨gp,1,none⟩ (.bool true)).setCell ⟨gp,2,none⟩ (.int .i64 p.key)).alloc (.cells #[.int .u64 v,.bool true,.int .i64 p.key] 44)) gp 82 (jd v true p.key (some ⟨b,off,none⟩) l c):=by simpa using((HP.out.set_ 1 (.bool true)).set_ 2 (.int .i64 p.key)).alloc _
 refine Li (v:= .tuple #[.agg #[.int .u64 v,.bool true,.int .i64 p.key],.int .i64 0]) (by simp[results,results44,go_sem]) rfl ?_
 exact⟨rfl,hm,hb⟩
theorem Hr {w:World} {B n s c:Nat} {e:TypeId} {A:Option Addr} {xs:List Value} (h:w.ownsRow B e s (.slice A n c) n xs):∀a,A=some a->a.block< w.heap.size:=by
 intro a ha
 exact(h.lt a.block (by simp[Value.ownBlock,ha])).2
def Cm (c:Cu) (l:List Pr) (w:World) (r:Ending) (w':World):Prop:=∃gp A k,r= .returned (.tuple #[.pointer (some ⟨gp,0,none⟩),.int .i64 0])/\w.heap.size<=gp/\Blk w' gp 82 (jd c.ver c.on c.key A l k)/\Sl w' A (l.flatMap Pr.cells)/\l.length<=k/\(∀a,A=some a->w.heap.size<=a.block/\a.block≠gp)/\Below w.heap.size w w'
theorem Gy (m:Mv) (ver:Int) (on:Bool) (key:Int) (st:Bool) (w:World) (hs:MvAt w m) (ho:MvOk m) (hcp:m.ps.cs.length<=m.ps.cc) (hcb:m.bs.cs.length<=m.bs.cc) (he:aQ m≠0):
  Calls prog 29 #[.agg m.row,.agg #[.int .u64 ver,.bool on,.int .i64 key],.bool st] w (fun r w'=>r= .returned (.tuple #[.pointer none,.int .i64 (aQ m)])/\Below w.heap.size w w'):=by
 obtain⟨W0,hW0⟩:∃W,((w.alloc (.cells m.row 42)).alloc (.cells #[.int .u64 ver,.bool on,.int .i64 key] 44))=W:=⟨_,rfl⟩
 have hb0:Below w.heap.size w W0:=by rw[<-hW0];exact(((Lg _ _).alloc (by first|exact Lf _|(simp;done)|(simp;omega)) _).alloc (by first|exact Lf _|(simp;done)|(simp;omega)) _)
 have bq0:Blk W0 w.heap.size 42 m.row:=by rw[<-hW0];exact((Blk.new _ _ _).alloc _)
 have HQ0:=Lc bq0
 have bq1:Blk W0 (w.heap.size+1) 44 #[.int .u64 ver,.bool on,.int .i64 key]:=by rw[<-hW0];exact(aj (by simp))
 have HQ1:=Lc bq1
 have HW0:=Lc hW0
 have HB0:=Lc hb0
 clear hW0 hb0 bq0 bq1
 have has:=gP m W0 (hs.below HB0.out) ho hcp hcb
 obtain⟨E,hE⟩:∃E,aQ m=E:=⟨_,rfl⟩
 rw[hE]at has he ⊢
 rw[if_neg he]at has
 have HAS:=Lc has
 clear has hE hs ho hcp hcb
 go_enter func29,ntmps29
 go_upto_region 1 with fail
 rw[HW0.out]
 try dsimp only[]
 repeat (first|refine ldb HQ0.out 0 underlying42 af rfl rfl rfl rfl ?_|go_values|go_skip|go_guarded|go_step|go_upon)
 refine HAS.out.mono ?_
 rintro e w1 ⟨A,c,rfl,ho1,hb1⟩
 have HB1:=Lc (aa HB0.out hb1)
 have HQ01:=Lc (HQ0.out.below hb1 HQ0.out.lt)
 have HQ11:=Lc (HQ1.out.below hb1 HQ1.out.lt)
 clear hb1 ho1
 go_wp2_with fail
 refine Li (v:= .tuple #[.pointer none,.int .i64 E]) (by simp[results,results29,go_sem]) rfl ?_
 exact⟨rfl,HB1.out⟩
theorem Fy (m:Mv) (ver:Int) (on:Bool) (key:Int) (w:World) (hs:MvAt w m) (ho:MvOk m) (hcp:m.ps.cs.length<=m.ps.cc) (hcb:m.bs.cs.length<=m.bs.cc) (he:aQ m=0) (hv:ver≠m.ver):
  Calls prog 29 #[.agg m.row,.agg #[.int .u64 ver,.bool on,.int .i64 key],.bool false] w (fun r w'=>r= .returned (.tuple #[.pointer none,.int .i64 300])/\Below w.heap.size w w'):=by
 obtain⟨W0,hW0⟩:∃W,((w.alloc (.cells m.row 42)).alloc (.cells #[.int .u64 ver,.bool on,.int .i64 key] 44))=W:=⟨_,rfl⟩
 have hb0:Below w.heap.size w W0:=by rw[<-hW0];exact(((Lg _ _).alloc (by first|exact Lf _|(simp;done)|(simp;omega)) _).alloc (by first|exact Lf _|(simp;done)|(simp;omega)) _)
 have bq0:Blk W0 w.heap.size 42 m.row:=by rw[<-hW0];exact((Blk.new _ _ _).alloc _)
 have HQ0:=Lc bq0
 have bq1:Blk W0 (w.heap.size+1) 44 #[.int .u64 ver,.bool on,.int .i64 key]:=by rw[<-hW0];exact(aj (by simp))
 have HQ1:=Lc bq1
 have HW0:=Lc hW0
 have HB0:=Lc hb0
 clear hW0 hb0 bq0 bq1
 have has:=gP m W0 (hs.below HB0.out) ho hcp hcb
 rw[he,if_pos rfl]at has
 obtain⟨P,hP⟩:∃P,allM m=P:=⟨_,rfl⟩
 rw[hP]at has
 have HAS:=Lc has
 have hq:(ver !=m.ver)=true:=by simp[hv]
 clear has he hP hs ho hcp hcb hv
 go_enter func29,ntmps29
 go_upto_region 1 with fail
 rw[HW0.out]
 try dsimp only[]
 repeat (first|refine ldb HQ0.out 0 underlying42 af rfl rfl rfl rfl ?_|go_values|go_skip|go_guarded|go_step|go_upon)
 refine HAS.out.mono ?_
 rintro e w1 ⟨A,c,rfl,ho1,hb1⟩
 have HB1:=Lc (aa HB0.out hb1)
 have HQ01:=Lc (HQ0.out.below hb1 HQ0.out.lt)
 have HQ11:=Lc (HQ1.out.below hb1 HQ1.out.lt)
 clear hb1 ho1
 have a0:=HQ11.out.cell
 have b1:w1.cell? ⟨w.heap.size,1,none⟩=some (.int .u64 m.ver):=HQ01.out.cell 1
 go_wp2_with fail
 refine Li (v:= .tuple #[.pointer none,.int .i64 300]) (by simp[results,results29,go_sem]) rfl ?_
 exact⟨rfl,HB1.out⟩
theorem Kg (m:Mv) (ver:Int) (key:Int) (w:World) (hs:MvAt w m) (ho:MvOk m) (hcp:m.ps.cs.length<=m.ps.cc) (hcb:m.bs.cs.length<=m.bs.cc) (he:aQ m=0) (hv:ver=m.ver):
  Calls prog 29 #[.agg m.row,.agg #[.int .u64 ver,.bool false,.int .i64 key],.bool false] w (fun r w'=>r= .returned (.tuple #[.pointer none,.int .i64 2])/\Below w.heap.size w w'):=by
 obtain⟨W0,hW0⟩:∃W,((w.alloc (.cells m.row 42)).alloc (.cells #[.int .u64 ver,.bool false,.int .i64 key] 44))=W:=⟨_,rfl⟩
 have hb0:Below w.heap.size w W0:=by rw[<-hW0];exact(((Lg _ _).alloc (by first|exact Lf _|(simp;done)|(simp;omega)) _).alloc (by first|exact Lf _|(simp;done)|(simp;omega)) _)
 have bq0:Blk W0 w.heap.size 42 m.row:=by rw[<-hW0];exact((Blk.new _ _ _).alloc _)
 have HQ0:=Lc bq0
 have bq1:Blk W0 (w.heap.size+1) 44 #[.int .u64 ver,.bool false,.int .i64 key]:=by rw[<-hW0];exact(aj (by simp))
 have HQ1:=Lc bq1
 have HW0:=Lc hW0
 have HB0:=Lc hb0
 clear hW0 hb0 bq0 bq1
 have has:=gP m W0 (hs.below HB0.out) ho hcp hcb
 rw[he,if_pos rfl]at has
 obtain⟨P,hP⟩:∃P,allM m=P:=⟨_,rfl⟩
 rw[hP]at has
 have HAS:=Lc has
 have hq:(ver !=m.ver)=false:=by simp[hv]
 clear has he hP hs ho hcp hcb hv
 go_enter func29,ntmps29
 go_upto_region 1 with fail
 rw[HW0.out]
 try dsimp only[]
 repeat (first|refine ldb HQ0.out 0 underlying42 af rfl rfl rfl rfl ?_|go_values|go_skip|go_guarded|go_step|go_upon)
 refine HAS.out.mono ?_
 rintro e w1 ⟨A,c,rfl,ho1,hb1⟩
 have HB1:=Lc (aa HB0.out hb1)
 have HQ01:=Lc (HQ0.out.below hb1 HQ0.out.lt)
 have HQ11:=Lc (HQ1.out.below hb1 HQ1.out.lt)
 clear hb1 ho1
 have a0:=HQ11.out.cell
 have b1:w1.cell? ⟨w.heap.size,1,none⟩=some (.int .u64 m.ver):=HQ01.out.cell 1
 go_wp2_with fail
 refine Li (v:= .tuple #[.pointer none,.int .i64 2]) (by simp[results,results29,go_sem]) rfl ?_
 exact⟨rfl,HB1.out⟩
theorem FU (m:Mv) (cu:Cu) (w:World) (hs:MvAt w m) (ho:MvOk m) (hcp:m.ps.cs.length<=m.ps.cc) (hcb:m.bs.cs.length<=m.bs.cc) (hz:cO m cu≠0):
  Calls prog 29 #[.agg m.row,.agg cu.row,.bool false] w (fun r w'=>r= .returned (.tuple #[.pointer none,.int .i64 (cO m cu)])/\Below w.heap.size w w'):=by
 obtain⟨ver,on,key⟩:=cu
 unfold cO at hz ⊢
 by_cases he:aQ m=0
 ·rw[if_pos he]at hz ⊢
  by_cases hv:ver=m.ver
  ·rw[if_pos hv]at hz ⊢
   cases on with
   |true=>exact absurd rfl hz
   |false=>exact Kg m ver key w hs ho hcp hcb he hv
  ·rw[if_neg hv]
   exact Fy m ver on key w hs ho hcp hcb he hv
 ·rw[if_neg he]
  exact Gy m ver on key false w hs ho hcp hcb he
theorem GU (m:Mv) (ver:Int) (key:Int) (w:World) (hs:MvAt w m) (ho:MvOk m) (hcp:m.ps.cs.length<=m.ps.cc) (hcb:m.bs.cs.length<=m.bs.cc) (he:aQ m=0) (hv:ver=m.ver):
  Calls prog 29 #[.agg m.row,.agg #[.int .u64 ver,.bool true,.int .i64 key],.bool false] w (Cm ⟨ver,true,key⟩ (allM m) w):=by
 obtain⟨W0,hW0⟩:∃W,((w.alloc (.cells m.row 42)).alloc (.cells #[.int .u64 ver,.bool true,.int .i64 key] 44))=W:=⟨_,rfl⟩
 have hb0:Below w.heap.size w W0:=by rw[<-hW0];exact(((Lg _ _).alloc (by first|exact Lf _|(simp;done)|(simp;omega)) _).alloc (by first|exact Lf _|(simp;done)|(simp;omega)) _)
 have bq0:Blk W0 w.heap.size 42 m.row:=by rw[<-hW0];exact((Blk.new _ _ _).alloc _)
 have HQ0:=Lc bq0
 have bq1:Blk W0 (w.heap.size+1) 44 #[.int .u64 ver,.bool true,.int .i64 key]:=by rw[<-hW0];exact(aj (by simp))
 have HQ1:=Lc bq1
 have HW0:=Lc hW0
 have HB0:=Lc hb0
 clear hW0 hb0 bq0 bq1
 have has:=gP m W0 (hs.below HB0.out) ho hcp hcb
 rw[he,if_pos rfl]at has
 obtain⟨P,hP⟩:∃P,allM m=P:=⟨_,rfl⟩
 rw[hP]at has ⊢
 have HAS:=Lc has
 have hq:(ver !=m.ver)=false:=by simp[hv]
 clear has he hP hs ho hcp hcb hv
 go_enter func29,ntmps29
 go_upto_region 1 with fail
 rw[HW0.out]
 try dsimp only[]
 repeat (first|refine ldb HQ0.out 0 underlying42 af rfl rfl rfl rfl ?_|go_values|go_skip|go_guarded|go_step|go_upon)
 refine HAS.out.mono ?_
 rintro e w1 ⟨A,c,rfl,ho1,hb1⟩
 have HB1:=Lc (aa HB0.out hb1)
 have HQ01:=Lc (HQ0.out.below hb1 HQ0.out.lt)
 have HQ11:=Lc (HQ1.out.below hb1 HQ1.out.lt)
 have HO1:=Lc ho1
 clear hb1 ho1
 have a0:=HQ11.out.cell
 have b1:w1.cell? ⟨w.heap.size,1,none⟩=some (.int .u64 m.ver):=HQ01.out.cell 1
 go_wp2_with fail
 have hpl:∀x:Addr,x.block≠w1.heap.size∨True:=fun _=> .inr trivial
 refine Li (v:= .tuple #[.pointer (some ⟨w1.heap.size,0,none⟩),.int .i64 0]) (by simp[results,results29,go_sem]) rfl ?_
 obtain⟨_,_,hvv,hlc,_⟩:=ak HO1.out
 cases hvv
 refine⟨w1.heap.size,A,c,rfl,HB1.out.size,Blk.new _ _ _,(aA HO1.out).below ((Lg _ _).alloc (Lf _) _),hlc,?_,HB1.out.alloc HB1.out.size _⟩
 intro a ha
 exact⟨Lt HB0.out.size (iP HO1.out a ha),Nat.ne_of_lt (Hr HO1.out a ha)⟩
theorem JO (m:Mv) (ver:Int) (on:Bool) (key:Int) (w:World) (hs:MvAt w m) (ho:MvOk m) (hcp:m.ps.cs.length<=m.ps.cc) (hcb:m.bs.cs.length<=m.bs.cc) (he:aQ m=0):
  Calls prog 29 #[.agg m.row,.agg #[.int .u64 ver,.bool on,.int .i64 key],.bool true] w (Cm ⟨m.ver,false,0⟩ (allM m) w):=by
 obtain⟨W0,hW0⟩:∃W,((w.alloc (.cells m.row 42)).alloc (.cells #[.int .u64 ver,.bool on,.int .i64 key] 44))=W:=⟨_,rfl⟩
 have hb0:Below w.heap.size w W0:=by rw[<-hW0];exact(((Lg _ _).alloc (by first|exact Lf _|(simp;done)|(simp;omega)) _).alloc (by first|exact Lf _|(simp;done)|(simp;omega)) _)
 have bq0:Blk W0 w.heap.size 42 m.row:=by rw[<-hW0];exact((Blk.new _ _ _).alloc _)
 have HQ0:=Lc bq0
 have bq1:Blk W0 (w.heap.size+1) 44 #[.int .u64 ver,.bool on,.int .i64 key]:=by rw[<-hW0];exact(aj (by simp))
 have HQ1:=Lc bq1
 have HW0:=Lc hW0
 have HB0:=Lc hb0
 clear hW0 hb0 bq0 bq1
 have has:=gP m W0 (hs.below HB0.out) ho hcp hcb
 rw[he,if_pos rfl]at has
 obtain⟨P,hP⟩:∃P,allM m=P:=⟨_,rfl⟩
 rw[hP]at has ⊢
 have HAS:=Lc has
 clear has he hP hs ho hcp hcb
 go_enter func29,ntmps29
 go_upto_region 1 with fail
 rw[HW0.out]
 try dsimp only[]
 repeat (first|refine ldb HQ0.out 0 underlying42 af rfl rfl rfl rfl ?_|go_values|go_skip|go_guarded|go_step|go_upon)
 refine HAS.out.mono ?_
 rintro e w1 ⟨A,c,rfl,ho1,hb1⟩
 have HB1:=Lc (aa HB0.out hb1)
 have HQ01:=Lc (HQ0.out.below hb1 HQ0.out.lt)
 have HQ11:=Lc (HQ1.out.below hb1 HQ1.out.lt)
 have HO1:=Lc ho1
 clear hb1 ho1
 have a0:=HQ11.out.cell
 have b1:w1.cell? ⟨w.heap.size,1,none⟩=some (.int .u64 m.ver):=HQ01.out.cell 1
 have f0:=HQ11.out.frozen
 go_wp2_with fail
 have hm1:Mod (fun b=>b=w.heap.size+1) w1 (((w1.setCell ⟨w.heap.size+1,0,none⟩ (.int .u64 m.ver)).setCell ⟨w.heap.size+1,1,none⟩ (.bool false)).setCell ⟨w.heap.size+1,2,none⟩ (.int .i64 0)):=(((Mod.refl (fun b=>b=w.heap.size+1) w1).setCell (p:=⟨w.heap.size+1,0,none⟩) rfl _).setCell (p:=⟨w.heap.size+1,1,none⟩) rfl _).setCell (p:=⟨w.heap.size+1,2,none⟩) rfl _
 obtain⟨W2,hW2⟩:∃W2,((w1.setCell ⟨w.heap.size+1,0,none⟩ (.int .u64 m.ver)).setCell ⟨w.heap.size+1,1,none⟩ (.bool false)).setCell ⟨w.heap.size+1,2,none⟩ (.int .i64 0)=W2:=⟨_,rfl⟩
 rw[hW2]at hm1
 have hsz:W2.heap.size=w1.heap.size:=by rw[<-hW2];simp
 try rw[hW2]
 refine Li (v:= .tuple #[.pointer (some ⟨W2.heap.size,0,none⟩),.int .i64 0]) (by simp[results,results29,go_sem,hsz]) rfl ?_
 obtain⟨_,_,hvv,hlc,_⟩:=ak HO1.out
 cases hvv
 have hbz:Below w.heap.size w W2:=HB1.out.trans (hm1.below HB1.out.size (fun b hb=>by have hb:b=w.heap.size+1:=hb;omega))
 have hl1:∀a,A=some a->w.heap.size+1< a.block:=fun a ha=>by have:=iP HO1.out a ha;have:=HQ1.out.lt;omega
 refine⟨W2.heap.size,A,c,rfl,hbz.size,Blk.new _ _ _,((aA HO1.out).mod hm1 (fun a ha q=>by have:=hl1 a ha;have q:a.block=w.heap.size+1:=q;omega)).below ((Lg _ _).alloc (Lf _) _),hlc,?_,hbz.alloc hbz.size _⟩
 intro a ha
 exact⟨Lt HB0.out.size (iP HO1.out a ha),by rw[hsz];exact Nat.ne_of_lt (Hr HO1.out a ha)⟩
theorem AZ (v:Value) (w:World):Calls prog 41 #[v] w fun r w'=>r= .returned (.int .i64 0)/\Below w.heap.size w w':=by
 go_enter func41,ntmps41
 go_wp2_with fail
 go_ret
 exact⟨rfl,Lg _ _⟩
theorem EL (gp:Nat) (v:Int) (on:Bool) (k:Int) (A:Option Addr) (l:List Pr) (c:Nat) (w:World) (hp:Blk w gp 82 (jd v on k A l c)) (hl:l.length<=16384):Calls prog 42 #[.pointer (some ⟨gp,0,none⟩)] w fun r w'=>r= .returned (.int .i64 ((l.length:Int)-1))/\Below w.heap.size w w':=by
 have p3:w.cell? ⟨gp,3,none⟩=some (.slice A l.length c):=hp.cell 3
 have hwr:IntKind.i64.wrap ((l.length:Int)-1)=(l.length:Int)-1:=Lh _ (by omega)
 have lp:=hp.lt
 clear hp hl
 go_enter func42,ntmps42
 go_wp2_with fail
 go_ret
 exact⟨rfl,Lg _ _⟩
theorem Dm (gp gk:Nat) (key:Int) (v:Int) (on:Bool) (k:Int) (A:Option Addr) (l:List Pr) (c:Nat) (w:World) (hp:Blk w gp 82 (jd v on k A l c)) (hk:w.cell? ⟨gk,0,none⟩=some (.int .i64 key)) (hA:Sl w A (l.flatMap Pr.cells)) (hlc:l.length<=c) (hl:l.length<=16384) (hr:Ris l):Calls prog 43 #[.pointer (some ⟨gp,0,none⟩),.pointer (some ⟨gk,0,none⟩)] w fun r w'=>r= .returned (.int .i64 ((bel l key:Nat):Int))/\Below w.heap.size w w':=by
 have hrk:=kE gp v on k A l c key w hp hA hlc hl hr
 obtain⟨K,hK⟩:∃K,bel l key=K:=⟨_,rfl⟩
 rw[hK]at hrk ⊢
 have HRK:=Lc hrk
 clear hrk hp hA hlc hl hr hK
 go_enter func43,ntmps43
 go_wp2_with fail
 refine HRK.out.mono ?_
 rintro e w1 ⟨rfl,hb1⟩
 have HB1:=Lc hb1
 clear hb1 hk
 go_wp2_with fail
 go_ret
 exact⟨rfl,HB1.out⟩
theorem pz {ver:Int} {P:List Pr} {j:Nat} (h:j< P.length):dM ver P ((j:Nat):Int)=⟨ver,true,(P[j]'h).key⟩/\il P ((j:Nat):Int)=0:=by
 unfold dM il
 rw[if_pos (by omega),if_pos (by omega),Int.toNat_natCast,getElem!_pos P j h]
 exact⟨rfl,rfl⟩
theorem rM {ver:Int} {P:List Pr} {k:Int} (h:¬(0<=k/\k< P.length)):dM ver P k=lF/\il P k=6:=by
 unfold dM il
 rw[if_neg h,if_neg h]
 exact⟨rfl,rfl⟩
theorem zP {P:Prop} (h:P:=by
  obtain⟨W0,hW0⟩:∃W,((w.alloc (.cells m.row 42)).alloc (.cells #[.int .u64 0,.bool false,.int .i64 0] 44))=W:=⟨_,rfl⟩
  have hb0:Below w.heap.size w W0:=by rw[<-hW0];exact(((Lg _ _).alloc (by first|exact Lf _|(simp;done)|(simp;omega)) _).alloc (by first|exact Lf _|(simp;done)|(simp;omega)) _)
  have bq0:Blk W0 w.heap.size 42 m.row:=by rw[<-hW0];exact((Blk.new _ _ _).alloc _)
  have HQ0:=Lc bq0
  have bq1:Blk W0 (w.heap.size+1) 44 #[.int .u64 0,.bool false,.int .i64 0]:=by rw[<-hW0];exact(aj (by simp))
  have HQ1:=Lc bq1
  have HW0:=Lc hW0
  have HB0:=Lc hb0
  clear hW0 hb0 bq0 bq1
  have hbk0:=HB0.out
  unfold iX iV
  by_cases he:aQ m=0
  case neg=>
   have hin:=Gy m 0 false 0 true W0 (hs.below HB0.out) ho hcp hcb he
   rw[if_neg he,if_neg he]
   obtain⟨E,hE⟩:∃E,aQ m=E:=⟨_,rfl⟩
   rw[hE]at hin he ⊢
   have HIN:=Lc hin
   clear hin hE hs ho hcp hcb hbk0
   go_enter func40,ntmps40
   go_upto_region 1 with fail
   rw[HW0.out]
   try dsimp only[]
   repeat (first|refine ldb HQ0.out 0 underlying42 af rfl rfl rfl rfl ?_|go_values|go_skip|go_guarded|go_step|go_upon)
   refine HIN.out.mono ?_
   rintro e w1 ⟨rfl,hb1⟩
   have HB1:=Lc (aa HB0.out hb1)
   have HQ11:=Lc (HQ1.out.below hb1 HQ1.out.lt)
   clear hb1
   have d0:=HQ11.out.cell
   have f0:=HQ11.out.frozen
   go_wp2_with fail
   have hR:=Lc (HQ11.out.set3 (.int .u64 0) (.bool false) (.int .i64 0))
   have e0:=hR.out.cell
   simp only[LB,Lm,Ll]at e0
   refine Li (v:= .tuple #[.agg #[.int .u64 0,.bool false,.int .i64 0],.int .i64 E]) (by simp[results,results40,go_sem,(e0 0),(e0 1),(e0 2)]) rfl ?_
   exact⟨rfl,(((HB1.out.setCell (p:=⟨(w.heap.size+1),0,none⟩) (by show w.heap.size<=(w.heap.size+1);omega) _).setCell (p:=⟨(w.heap.size+1),1,none⟩) (by show w.heap.size<=(w.heap.size+1);omega) _).setCell (p:=⟨(w.heap.size+1),2,none⟩) (by show w.heap.size<=(w.heap.size+1);omega) _)⟩
  case pos=>
  have hin:=JO m 0 false 0 W0 (hs.below HB0.out) ho hcp hcb he
  rw[if_pos he,if_pos he]
  have hln:=fG ho he
  have hri:=jI he
  obtain⟨P,hP⟩:∃P,allM m=P:=⟨_,rfl⟩
  rw[hP]at hin hln hri ⊢
  have HIN:=Lc hin
  have HLN:=Lc hln
  have HRI:=Lc hri
  first|(have mz:=mk0;clear mz;obtain⟨C,hC⟩:∃C,dM m.ver P (0:Int)=C:=⟨_,rfl⟩)|(have mz:=mk1;clear mz;obtain⟨C,hC⟩:∃C,dM m.ver P (((P).length:Int)-1)=C:=⟨_,rfl⟩)|(have mz:=mk2;clear mz;obtain⟨C,hC⟩:∃C,dM m.ver P ((bel (P) key:Nat):Int)=C:=⟨_,rfl⟩)
  first|(have mz:=mk0;clear mz;obtain⟨D,hD⟩:∃D,il P (0:Int)=D:=⟨_,rfl⟩)|(have mz:=mk1;clear mz;obtain⟨D,hD⟩:∃D,il P (((P).length:Int)-1)=D:=⟨_,rfl⟩)|(have mz:=mk2;clear mz;obtain⟨D,hD⟩:∃D,il P ((bel (P) key:Nat):Int)=D:=⟨_,rfl⟩)
  rw[hC,hD]
  first|(have mz:=mk0;clear mz;obtain⟨K,hK⟩:∃K:Int,(0:Int)=K:=⟨_,rfl⟩)|(have mz:=mk1;clear mz;obtain⟨K,hK⟩:∃K:Int,(((P).length:Int)-1)=K:=⟨_,rfl⟩)|(have mz:=mk2;clear mz;obtain⟨K,hK⟩:∃K:Int,((bel (P) key:Nat):Int)=K:=⟨_,rfl⟩)
  have HKE:=Lc hK
  have HCC:=Lc (show dM m.ver P K=C by rw[<-hK];exact hC)
  have HDD:=Lc (show il P K=D by rw[<-hK];exact hD)
  clear hin hln hri hs ho hcp hcb hK hP he hC hD
  go_enter func40,ntmps40
  go_upto_region 1 with fail
  rw[HW0.out]
  try dsimp only[]
  repeat (first|refine ldb HQ0.out 0 underlying42 af rfl rfl rfl rfl ?_|go_values|go_skip|go_guarded|go_step|go_upon)
  refine HIN.out.mono ?_
  rintro e w1 ⟨gp,A,c,rfl,hgp,hpl,hsl,hlc,hne,hb1⟩
  have HB1:=Lc (aa HB0.out hb1)
  have HQ11:=Lc (HQ1.out.below hb1 HQ1.out.lt)
  have HPL:=Lc hpl
  have HSL:=Lc hsl
  have HLC:=Lc hlc
  have HNE:=Lc hne
  have HGP:=Lc (show w.heap.size+2<=gp by have:=HQ1.out.lt;omega)
  have hbk:=aa hbk0 hb1
  try have HKC:=Lc ((hbk.cell (p:=⟨gk,0,none⟩) hgk).trans hk)
  clear hbk
  clear hb1 hpl hsl hlc hne hgp hbk0
  go_wp2_with fail
  first|refine(AZ _ _).mono ?_|refine(EL gp _ _ _ _ _ _ _ HPL.out HLN.out).mono ?_|refine(Dm gp gk key _ _ _ _ _ _ _ HPL.out HKC.out HSL.out HLC.out HLN.out HRI.out).mono ?_
  rintro e w2 ⟨he2,hb2⟩
  rw[HKE.out]at he2
  subst he2
  have HB2:=Lc (aa HB1.out hb2)
  have HQ12:=Lc (HQ11.out.below hb2 HQ11.out.lt)
  have HPM:=Lc (HPL.out.below hb2 HPL.out.lt)
  have HSM:=Lc (HSL.out.below hb2)
  first|clear hb2|clear hb2 hk hgk
  by_cases hr:0<=K/\K< P.length
  case neg=>
   have hcu:=rM (ver:=m.ver) hr
   obtain rfl:C=lF:=by rw[<-HCC.out];exact hcu.1
   obtain rfl:D=6:=by rw[<-HDD.out];exact hcu.2
   have hto:=Cj gp _ _ _ _ _ _ K w2 HPM.out hr
   have HTO:=Lc hto
   clear hto hcu hr
   go_wp2_with fail
   refine HTO.out.mono ?_
   rintro e w3 ⟨rfl,hb3⟩
   have HB3:=Lc (aa HB2.out hb3)
   have HQ13:=Lc (HQ12.out.below hb3 HQ12.out.lt)
   clear hb3
   have d0:=HQ13.out.cell
   have f0:=HQ13.out.frozen
   go_wp2_with fail
   have hR:=Lc (HQ13.out.set3 (.int .u64 lF.ver) (.bool lF.on) (.int .i64 lF.key))
   have e0:=hR.out.cell
   simp only[LB,Lm,Ll]at e0
   refine Li (v:= .tuple #[.agg #[.int .u64 lF.ver,.bool lF.on,.int .i64 lF.key],.int .i64 6]) (by simp[results,results40,go_sem,(e0 0),(e0 1),(e0 2)]) rfl ?_
   exact⟨rfl,(((HB3.out.setCell (p:=⟨(w.heap.size+1),0,none⟩) (by show w.heap.size<=(w.heap.size+1);omega) _).setCell (p:=⟨(w.heap.size+1),1,none⟩) (by show w.heap.size<=(w.heap.size+1);omega) _).setCell (p:=⟨(w.heap.size+1),2,none⟩) (by show w.heap.size<=(w.heap.size+1);omega) _)⟩
  case pos=>
   obtain⟨j,hj⟩:∃j:Nat,K=(j:Int):=⟨K.toNat,by omega⟩
   subst hj
   have hjl:j< P.length:=by omega
   have hcu:=pz (ver:=m.ver) hjl
   obtain rfl:C=⟨m.ver,true,(P[j]'hjl).key⟩:=by rw[<-HCC.out];exact hcu.1
   obtain rfl:D=0:=by rw[<-HDD.out];exact hcu.2
   have hto:=vX gp _ _ _ _ _ _ j w2 HPM.out HSM.out hjl (fun a ha=>(HNE.out a ha).2)
   have HTO:=Lc hto
   clear hto hcu hr
   go_wp2_with fail
   refine HTO.out.mono ?_
   rintro e w3 ⟨rfl,hm3,hb3⟩
   have HB3:=Lc (HB2.out.trans (hm3.below HB2.out.size (fun b hb=>by have hb:b=gp:=hb;have:=HGP.out;omega)))
   have HQ13:=Lc (HQ12.out.mod hm3 (fun q=>by have q:w.heap.size+1=gp:=q;have:=HGP.out;omega))
   clear hb3 hm3
   have d0:=HQ13.out.cell
   have f0:=HQ13.out.frozen
   go_wp2_with fail
   have hR:=Lc (HQ13.out.set3 (.int .u64 m.ver) (.bool true) (.int .i64 (P[j]'hjl).key))
   have e0:=hR.out.cell
   simp only[LB,Lm,Ll]at e0
   refine Li (v:= .tuple #[.agg #[.int .u64 m.ver,.bool true,.int .i64 (P[j]'hjl).key],.int .i64 0]) (by simp[results,results40,go_sem,(e0 0),(e0 1),(e0 2)]) rfl ?_
   exact⟨rfl,(((HB3.out.setCell (p:=⟨(w.heap.size+1),0,none⟩) (by show w.heap.size<=(w.heap.size+1);omega) _).setCell (p:=⟨(w.heap.size+1),1,none⟩) (by show w.heap.size<=(w.heap.size+1);omega) _).setCell (p:=⟨(w.heap.size+1),2,none⟩) (by show w.heap.size<=(w.heap.size+1);omega) _)⟩):P:=h
theorem vL (m:Mv) (w:World) (hs:MvAt w m) (ho:MvOk m) (hcp:m.ps.cs.length<=m.ps.cc) (hcb:m.bs.cs.length<=m.bs.cc):
  Calls prog 40 #[.agg m.row,.func (.func 41) #[] #[]] w fun r w'=>r= .returned (.tuple #[.agg (iX m (0:Int)).row,.int .i64 (iV m (0:Int))])/\Below w.heap.size w w':=by
 have mk0:=()
 exact zP
theorem xM (m:Mv) (w:World) (hs:MvAt w m) (ho:MvOk m) (hcp:m.ps.cs.length<=m.ps.cc) (hcb:m.bs.cs.length<=m.bs.cc):
  Calls prog 40 #[.agg m.row,.func (.func 42) #[] #[]] w fun r w'=>r= .returned (.tuple #[.agg (iX m (((allM m).length:Int)-1)).row,.int .i64 (iV m (((allM m).length:Int)-1))])/\Below w.heap.size w w':=by
 have mk1:=()
 exact zP
theorem xR (m:Mv) (key:Int) (gk:Nat) (w:World) (hs:MvAt w m) (ho:MvOk m) (hcp:m.ps.cs.length<=m.ps.cc) (hcb:m.bs.cs.length<=m.bs.cc) (hgk:gk< w.heap.size) (hk:w.cell? ⟨gk,0,none⟩=some (.int .i64 key)):
  Calls prog 40 #[.agg m.row,.func (.func 43) #[] #[.pointer (some ⟨gk,0,none⟩)]] w fun r w'=>r= .returned (.tuple #[.agg (iX m ((bel (allM m) key:Nat):Int)).row,.int .i64 (iV m ((bel (allM m) key:Nat):Int))])/\Below w.heap.size w w':=by
 have mk2:=()
 exact zP
theorem Jv {P:Prop} (h:P:=by
 obtain⟨W0,hW0⟩:∃W,((w.alloc (.cells m.row 42)).alloc (.cells #[.int .u64 0,.bool false,.int .i64 0] 44))=W:=⟨_,rfl⟩
 have hb0:Below w.heap.size w W0:=by rw[<-hW0];exact(((Lg _ _).alloc (by first|exact Lf _|(simp;done)|(simp;omega)) _).alloc (by first|exact Lf _|(simp;done)|(simp;omega)) _)
 have bq0:Blk W0 w.heap.size 42 m.row:=by rw[<-hW0];exact((Blk.new _ _ _).alloc _)
 have HQ0:=Lc bq0
 have bq1:Blk W0 (w.heap.size+1) 44 #[.int .u64 0,.bool false,.int .i64 0]:=by rw[<-hW0];exact(aj (by simp))
 have HQ1:=Lc bq1
 have HW0:=Lc hW0
 have HB0:=Lc hb0
 clear hW0 hb0 bq0 bq1
 first|(have mz:=mk0;clear mz;have hst:=vL m W0 (hs.below HB0.out) ho hcp hcb)|(have mz:=mk1;clear mz;have hst:=xM m W0 (hs.below HB0.out) ho hcp hcb)
 first|(have mz:=mk0;clear mz;obtain⟨C,hC⟩:∃C,iX m (0:Int)=C:=⟨_,rfl⟩)|(have mz:=mk1;clear mz;obtain⟨C,hC⟩:∃C,iX m (((allM m).length:Int)-1)=C:=⟨_,rfl⟩)
 first|(have mz:=mk0;clear mz;obtain⟨D,hD⟩:∃D,iV m (0:Int)=D:=⟨_,rfl⟩)|(have mz:=mk1;clear mz;obtain⟨D,hD⟩:∃D,iV m (((allM m).length:Int)-1)=D:=⟨_,rfl⟩)
 rw[hC,hD]at hst ⊢
 have HST:=Lc hst
 have hmf:∀(fn:Fn) (first cap:Array Value) (w:World),(Instr.makeFunc fn first cap).run prog w= .ok (.func fn first cap) w:=fun _ _ _ _=>rfl
 clear hst hC hD hs ho hcp hcb
 first|go_enter func11,ntmps11|go_enter func13,ntmps13
 go_upto_region 1 with fail
 rw[HW0.out]
 try dsimp only[]
 repeat (first|refine ldb HQ0.out 0 underlying42 af rfl rfl rfl rfl ?_|go_values|go_skip|go_guarded|go_step|go_upon)
 refine HST.out.mono ?_
 rintro e w1 ⟨rfl,hb1⟩
 have HB1:=Lc (aa HB0.out hb1)
 have HQ11:=Lc (HQ1.out.below hb1 HQ1.out.lt)
 clear hb1
 have d0:=HQ11.out.cell
 have f0:=HQ11.out.frozen
 go_wp2_with fail
 have hR:=Lc (HQ11.out.set3 (.int .u64 C.ver) (.bool C.on) (.int .i64 C.key))
 have e0:=hR.out.cell
 simp only[LB,Lm,Ll]at e0
 first|(have mz:=mk0;clear mz;refine Li (v:= .tuple #[.agg #[.int .u64 C.ver,.bool C.on,.int .i64 C.key],.int .i64 D]) (by simp[results,results11,go_sem,(e0 0),(e0 1),(e0 2)]) rfl ?_)|(have mz:=mk1;clear mz;refine Li (v:= .tuple #[.agg #[.int .u64 C.ver,.bool C.on,.int .i64 C.key],.int .i64 D]) (by simp[results,results13,go_sem,(e0 0),(e0 1),(e0 2)]) rfl ?_)
 exact⟨rfl,(((HB1.out.setCell (p:=⟨(w.heap.size+1),0,none⟩) (by show w.heap.size<=(w.heap.size+1);omega) _).setCell (p:=⟨(w.heap.size+1),1,none⟩) (by show w.heap.size<=(w.heap.size+1);omega) _).setCell (p:=⟨(w.heap.size+1),2,none⟩) (by show w.heap.size<=(w.heap.size+1);omega) _)⟩):P:=h
theorem zO (m:Mv) (w:World) (hs:MvAt w m) (ho:MvOk m) (hcp:m.ps.cs.length<=m.ps.cc) (hcb:m.bs.cs.length<=m.bs.cc):
  Calls prog 11 #[.agg m.row] w fun r w'=>r= .returned (.tuple #[.agg (iX m (0:Int)).row,.int .i64 (iV m (0:Int))])/\Below w.heap.size w w':=by
 have mk0:=()
 exact Jv
theorem DU (m:Mv) (w:World) (hs:MvAt w m) (ho:MvOk m) (hcp:m.ps.cs.length<=m.ps.cc) (hcb:m.bs.cs.length<=m.bs.cc):
  Calls prog 13 #[.agg m.row] w fun r w'=>r= .returned (.tuple #[.agg (iX m (((allM m).length:Int)-1)).row,.int .i64 (iV m (((allM m).length:Int)-1))])/\Below w.heap.size w w':=by
 have mk1:=()
 exact Jv
theorem Es (m:Mv) (key:Int) (w:World) (hs:MvAt w m) (ho:MvOk m) (hcp:m.ps.cs.length<=m.ps.cc) (hcb:m.bs.cs.length<=m.bs.cc):
  Calls prog 15 #[.agg m.row,.int .i64 key] w fun r w'=>r= .returned (.tuple #[.agg (iX m ((bel (allM m) key:Nat):Int)).row,.int .i64 (iV m ((bel (allM m) key:Nat):Int))])/\Below w.heap.size w w':=by
 obtain⟨W0,hW0⟩:∃W,(((w.alloc (.cells m.row 42)).alloc (.cells #[.int .i64 key] 2)).alloc (.cells #[.int .u64 0,.bool false,.int .i64 0] 44))=W:=⟨_,rfl⟩
 have hb0:Below w.heap.size w W0:=by rw[<-hW0];exact((((Lg _ _).alloc (by first|exact Lf _|(simp;done)|(simp;omega)) _).alloc (by first|exact Lf _|(simp;done)|(simp;omega)) _).alloc (by first|exact Lf _|(simp;done)|(simp;omega)) _)
 have bq0:Blk W0 w.heap.size 42 m.row:=by rw[<-hW0];exact(((Blk.new _ _ _).alloc _).alloc _)
 have HQ0:=Lc bq0
 have bq1:Blk W0 (w.heap.size+1) 2 #[.int .i64 key]:=by rw[<-hW0];exact((aj (by simp)).alloc _)
 have HQ1:=Lc bq1
 have bq2:Blk W0 (w.heap.size+2) 44 #[.int .u64 0,.bool false,.int .i64 0]:=by rw[<-hW0];exact(aj (by simp))
 have HQ2:=Lc bq2
 have HW0:=Lc hW0
 have HB0:=Lc hb0
 clear hW0 hb0 bq0 bq1 bq2
 have hst:=xR m key (w.heap.size+1) W0 (hs.below HB0.out) ho hcp hcb HQ1.out.lt (HQ1.out.cell 0)
 obtain⟨C,hC⟩:∃C,iX m ((bel (allM m) key:Nat):Int)=C:=⟨_,rfl⟩
 obtain⟨D,hD⟩:∃D,iV m ((bel (allM m) key:Nat):Int)=D:=⟨_,rfl⟩
 rw[hC,hD]at hst ⊢
 have HST:=Lc hst
 have hmf:∀(fn:Fn) (first cap:Array Value) (w:World),(Instr.makeFunc fn first cap).run prog w= .ok (.func fn first cap) w:=fun _ _ _ _=>rfl
 clear hst hC hD hs ho hcp hcb
 go_enter func15,ntmps15
 go_upto_region 1 with fail
 rw[HW0.out]
 try dsimp only[]
 repeat (first|refine ldb HQ0.out 0 underlying42 af rfl rfl rfl rfl ?_|go_values|go_skip|go_guarded|go_step|go_upon)
 refine HST.out.mono ?_
 rintro e w1 ⟨rfl,hb1⟩
 have HB1:=Lc (aa HB0.out hb1)
 have HQ21:=Lc (HQ2.out.below hb1 HQ2.out.lt)
 clear hb1
 have d0:=HQ21.out.cell
 have f0:=HQ21.out.frozen
 go_wp2_with fail
 have hR:=Lc (HQ21.out.set3 (.int .u64 C.ver) (.bool C.on) (.int .i64 C.key))
 have e0:=hR.out.cell
 simp only[LB,Lm,Ll]at e0
 refine Li (v:= .tuple #[.agg #[.int .u64 C.ver,.bool C.on,.int .i64 C.key],.int .i64 D]) (by simp[results,results15,go_sem,(e0 0),(e0 1),(e0 2)]) rfl ?_
 exact⟨rfl,(((HB1.out.setCell (p:=⟨(w.heap.size+2),0,none⟩) (by show w.heap.size<=(w.heap.size+2);omega) _).setCell (p:=⟨(w.heap.size+2),1,none⟩) (by show w.heap.size<=(w.heap.size+2);omega) _).setCell (p:=⟨(w.heap.size+2),2,none⟩) (by show w.heap.size<=(w.heap.size+2);omega) _)⟩
theorem tH {m:Mv} {cu:Cu} (h:cO m cu=0):aQ m=0/\cu.ver=m.ver/\cu.on=true:=by
 unfold cO at h
 by_cases h1:aQ m=0
 ·rw[if_pos h1]at h
  by_cases h2:cu.ver=m.ver
  ·rw[if_pos h2]at h
   by_cases h3:cu.on=true
   ·exact⟨h1,h2,h3⟩
   ·rw[if_neg h3]at h;omega
  ·rw[if_neg h2]at h;omega
 ·rw[if_neg h1]at h;exact absurd h h1
theorem Fv {P:Prop} (h:P:=by
  obtain⟨ver,on,key⟩:=cu
  obtain⟨W0,hW0⟩:∃W,(((w.alloc (.cells m.row 42)).alloc (.cells #[.int .u64 ver,.bool on,.int .i64 key] 44)).alloc (.cells #[.int .u64 0,.bool false,.int .i64 0] 44))=W:=⟨_,rfl⟩
  have hb0:Below w.heap.size w W0:=by rw[<-hW0];exact((((Lg _ _).alloc (by first|exact Lf _|(simp;done)|(simp;omega)) _).alloc (by first|exact Lf _|(simp;done)|(simp;omega)) _).alloc (by first|exact Lf _|(simp;done)|(simp;omega)) _)
  have bq0:Blk W0 w.heap.size 42 m.row:=by rw[<-hW0];exact(((Blk.new _ _ _).alloc _).alloc _)
  have HQ0:=Lc bq0
  have bq1:Blk W0 (w.heap.size+1) 44 #[.int .u64 ver,.bool on,.int .i64 key]:=by rw[<-hW0];exact((aj (by simp)).alloc _)
  have HQ1:=Lc bq1
  have bq2:Blk W0 (w.heap.size+2) 44 #[.int .u64 0,.bool false,.int .i64 0]:=by rw[<-hW0];exact(aj (by simp))
  have HQ2:=Lc bq2
  have HW0:=Lc hW0
  have HB0:=Lc hb0
  clear hW0 hb0 bq0 bq1 bq2
  have hin:=FU m ⟨ver,on,key⟩ W0 (hs.below HB0.out) ho hcp hcb hz
  obtain⟨Z,hZ⟩:∃Z,cO m ⟨ver,on,key⟩=Z:=⟨_,rfl⟩
  rw[hZ]at hin hz ⊢
  clear hZ
  have a0:=HQ1.out.cell
  have HIN:=Lc (hin)
  clear hin hs ho hcp hcb
  first|go_enter func17,ntmps17|go_enter func19,ntmps19
  go_upto_region 1 with fail
  rw[HW0.out]
  try dsimp only[]
  repeat (first|refine LK rfl 42 (.tmp 2) rfl w.heap.size 0 rfl _ _ (ae HQ0.out 0 46 rfl) underlying42 rfl af ?_|refine LY 42 (.tmp 2) rfl w.heap.size 0 rfl _ _ (ae HQ0.out 0 46 rfl) underlying42 rfl af ?_|go_values|go_skip|go_guarded|go_step|go_upon)
  refine HIN.out.mono ?_
  rintro e w1 ⟨rfl,hb1⟩
  have HB1:=Lc (aa HB0.out hb1)
  have HQ21:=Lc (HQ2.out.below hb1 HQ2.out.lt)
  clear hb1
  have d0:=HQ21.out.cell
  have f0:=HQ21.out.frozen
  go_wp2_with fail
  have hR:=Lc (HQ21.out.set3 (.int .u64 0) (.bool false) (.int .i64 0))
  have e0:=hR.out.cell
  simp only[LB,Lm,Ll]at e0
  first|refine Li (v:= .tuple #[.agg #[.int .u64 0,.bool false,.int .i64 0],.int .i64 Z]) (by simp[results,results17,go_sem,(e0 0),(e0 1),(e0 2)]) rfl ?_|refine Li (v:= .tuple #[.agg #[.int .u64 0,.bool false,.int .i64 0],.int .i64 Z]) (by simp[results,results19,go_sem,(e0 0),(e0 1),(e0 2)]) rfl ?_
  exact⟨rfl,(((HB1.out.setCell (p:=⟨(w.heap.size+2),0,none⟩) (by show w.heap.size<=(w.heap.size+2);omega) _).setCell (p:=⟨(w.heap.size+2),1,none⟩) (by show w.heap.size<=(w.heap.size+2);omega) _).setCell (p:=⟨(w.heap.size+2),2,none⟩) (by show w.heap.size<=(w.heap.size+2);omega) _)⟩):P:=h
theorem D8 (m:Mv) (cu:Cu) (w:World) (hs:MvAt w m) (ho:MvOk m) (hcp:m.ps.cs.length<=m.ps.cc) (hcb:m.bs.cs.length<=m.bs.cc) (hz:cO m cu≠0):
  Calls prog 17 #[.agg m.row,.agg cu.row] w fun r w'=>r= .returned (.tuple #[.agg lF.row,.int .i64 (cO m cu)])/\Below w.heap.size w w':=Fv
theorem ER (m:Mv) (cu:Cu) (w:World) (hs:MvAt w m) (ho:MvOk m) (hcp:m.ps.cs.length<=m.ps.cc) (hcb:m.bs.cs.length<=m.bs.cc) (hz:cO m cu≠0):
  Calls prog 19 #[.agg m.row,.agg cu.row] w fun r w'=>r= .returned (.tuple #[.agg lF.row,.int .i64 (cO m cu)])/\Below w.heap.size w w':=Fv
theorem Bq (m:Mv) (cu:Cu) (w:World) (hs:MvAt w m) (ho:MvOk m) (hcp:m.ps.cs.length<=m.ps.cc) (hcb:m.bs.cs.length<=m.bs.cc) (hz:cO m cu=0):
  Calls prog 19 #[.agg m.row,.agg cu.row] w fun r w'=>r= .returned (.tuple #[.agg (dM m.ver (allM m) (dA (allM m) cu.key false)).row,.int .i64 (il (allM m) (dA (allM m) cu.key false))])/\Below w.heap.size w w':=by
 obtain⟨he,hv,hon⟩:=tH hz
 obtain⟨ver,on,key⟩:=cu
 dsimp only at hv hon ⊢
 subst hv
 subst hon
 obtain⟨W0,hW0⟩:∃W,(((w.alloc (.cells m.row 42)).alloc (.cells #[.int .u64 m.ver,.bool true,.int .i64 key] 44)).alloc (.cells #[.int .u64 0,.bool false,.int .i64 0] 44))=W:=⟨_,rfl⟩
 have hb0:Below w.heap.size w W0:=by rw[<-hW0];exact((((Lg _ _).alloc (by first|exact Lf _|(simp;done)|(simp;omega)) _).alloc (by first|exact Lf _|(simp;done)|(simp;omega)) _).alloc (by first|exact Lf _|(simp;done)|(simp;omega)) _)
 have bq0:Blk W0 w.heap.size 42 m.row:=by rw[<-hW0];exact(((Blk.new _ _ _).alloc _).alloc _)
 have HQ0:=Lc bq0
 have bq1:Blk W0 (w.heap.size+1) 44 #[.int .u64 m.ver,.bool true,.int .i64 key]:=by rw[<-hW0];exact((aj (by simp)).alloc _)
 have HQ1:=Lc bq1
 have bq2:Blk W0 (w.heap.size+2) 44 #[.int .u64 0,.bool false,.int .i64 0]:=by rw[<-hW0];exact(aj (by simp))
 have HQ2:=Lc bq2
 have HW0:=Lc hW0
 have HB0:=Lc hb0
 clear hW0 hb0 bq0 bq1 bq2
 have hin:=GU m m.ver key W0 (hs.below HB0.out) ho hcp hcb he rfl
 have hln:=fG ho he
 have hri:=jI he
 obtain⟨P,hP⟩:∃P,allM m=P:=⟨_,rfl⟩
 rw[hP]at hin hln hri ⊢
 have HIN:=Lc hin
 have HLN:=Lc hln
 have HRI:=Lc hri
 have hKl:=mU P key
 obtain⟨C,hC⟩:∃C,dM m.ver P (dA P key false)=C:=⟨_,rfl⟩
 obtain⟨D,hD⟩:∃D,il P (dA P key false)=D:=⟨_,rfl⟩
 rw[hC,hD]
 have HCC:=Lc hC
 have HDD:=Lc hD
 have hrk:=fun gp A c W (h1:Blk W gp 82 (jd m.ver true key A P c)) (h2:Sl W A (P.flatMap Pr.cells)) (h3:P.length<=c)=>kE gp m.ver true key A P c key W h1 h2 h3 hln hri
 obtain⟨K,hK⟩:∃K,bel P key=K:=⟨_,rfl⟩
 rw[hK]at hrk hKl
 have HRK:=Lc hrk
 have HKE:=Lc hK
 have HKL:=Lc hKl
 clear hin hln hri hs ho hcp hcb hK hKl hP he hC hD hrk hz
 have a0:=HQ1.out.cell
 go_enter func19,ntmps19
 go_upto_region 1 with fail
 rw[HW0.out]
 try dsimp only[]
 repeat (first|refine LK rfl 42 (.tmp 2) rfl w.heap.size 0 rfl _ _ (ae HQ0.out 0 46 rfl) underlying42 rfl af ?_|refine LY 42 (.tmp 2) rfl w.heap.size 0 rfl _ _ (ae HQ0.out 0 46 rfl) underlying42 rfl af ?_|go_values|go_skip|go_guarded|go_step|go_upon)
 refine HIN.out.mono ?_
 rintro e w1 ⟨gp,A,c,rfl,hgp,hpl,hsl,hlc,hne,hb1⟩
 have HB1:=Lc (aa HB0.out hb1)
 have HQ11:=Lc (HQ1.out.below hb1 HQ1.out.lt)
 have HQ21:=Lc (HQ2.out.below hb1 HQ2.out.lt)
 have HPL:=Lc hpl
 have HSL:=Lc hsl
 have HLC:=Lc hlc
 have HNE:=Lc hne
 have HGP:=Lc (show w.heap.size+3<=gp by have:=HQ2.out.lt;omega)
 clear hb1 hpl hsl hlc hne hgp a0
 have a0:=HQ11.out.cell
 go_wp2_with fail
 refine(HRK.out gp A c w1 HPL.out HSL.out HLC.out).mono ?_
 rintro e w2 ⟨rfl,hb2⟩
 have HB2:=Lc (aa HB1.out hb2)
 have HQ12:=Lc (HQ11.out.below hb2 HQ11.out.lt)
 have HQ22:=Lc (HQ21.out.below hb2 HQ21.out.lt)
 have HPM:=Lc (HPL.out.below hb2 HPL.out.lt)
 have HSM:=Lc (HSL.out.below hb2)
 clear hb2 a0
 obtain⟨J,hJ⟩:∃J:Int,(K:Int)-1=J:=⟨_,rfl⟩
 have hmk:dA P key false=J:=by unfold dA;rw[if_neg (by decide),HKE.out];exact hJ
 have hwr:IntKind.i64.wrap ((K:Int)-1)=J:=by rw[Lh _ (by have:=HKL.out;have:=HLN.out;omega)];exact hJ
 have HJ:=Lc hJ
 have HMK:=Lc hmk
 clear hJ hmk
 by_cases hr:0<=J/\J< P.length
 case neg=>
  have hcu:=rM (ver:=m.ver) hr
  obtain rfl:C=lF:=by rw[<-HCC.out,HMK.out];exact hcu.1
  obtain rfl:D=6:=by rw[<-HDD.out,HMK.out];exact hcu.2
  clear hcu
  have hto:=Cj gp _ _ _ _ _ _ J w2 HPM.out hr
  have HTO:=Lc hto
  clear hto hr
  go_wp2_with fail
  refine HTO.out.mono ?_
  rintro e w5 ⟨rfl,hb5⟩
  have HBz:=Lc (aa HB2.out hb5)
  have HQz:=Lc (HQ22.out.below hb5 HQ22.out.lt)
  clear hb5
  have d0:=HQz.out.cell
  have f0:=HQz.out.frozen
  go_wp2_with fail
  have hR:=Lc (HQz.out.set3 (.int .u64 lF.ver) (.bool lF.on) (.int .i64 lF.key))
  have e0:=hR.out.cell
  simp only[LB,Lm,Ll]at e0
  refine Li (v:= .tuple #[.agg #[.int .u64 lF.ver,.bool lF.on,.int .i64 lF.key],.int .i64 6]) (by simp[results,results19,go_sem,(e0 0),(e0 1),(e0 2)]) rfl ?_
  exact⟨rfl,(((HBz.out.setCell (p:=⟨(w.heap.size+2),0,none⟩) (by show w.heap.size<=(w.heap.size+2);omega) _).setCell (p:=⟨(w.heap.size+2),1,none⟩) (by show w.heap.size<=(w.heap.size+2);omega) _).setCell (p:=⟨(w.heap.size+2),2,none⟩) (by show w.heap.size<=(w.heap.size+2);omega) _)⟩
 case pos=>
  obtain⟨j,hj⟩:∃j:Nat,J=(j:Int):=⟨J.toNat,by clear hwr;omega⟩
  subst hj
  have hjl:j< P.length:=by clear hwr;omega
  have hcu:=pz (ver:=m.ver) hjl
  obtain rfl:C=⟨m.ver,true,(P[j]'hjl).key⟩:=by rw[<-HCC.out,HMK.out];exact hcu.1
  obtain rfl:D=0:=by rw[<-HDD.out,HMK.out];exact hcu.2
  clear hcu
  have hto:=vX gp _ _ _ _ _ _ j w2 HPM.out HSM.out hjl (fun a ha=>(HNE.out a ha).2)
  have HTO:=Lc hto
  clear hto hr
  go_wp2_with fail
  refine HTO.out.mono ?_
  rintro e w5 ⟨rfl,hm5,hb5⟩
  have HBz:=Lc (HB2.out.trans (hm5.below HB2.out.size (fun b hb=>by have hb:b=gp:=hb;have:=HGP.out;omega)))
  have HQz:=Lc (HQ22.out.mod hm5 (fun q=>by have q:w.heap.size+2=gp:=q;have:=HGP.out;omega))
  clear hb5 hm5
  have d0:=HQz.out.cell
  have f0:=HQz.out.frozen
  go_wp2_with fail
  have hR:=Lc (HQz.out.set3 (.int .u64 m.ver) (.bool true) (.int .i64 (P[j]'hjl).key))
  have e0:=hR.out.cell
  simp only[LB,Lm,Ll]at e0
  refine Li (v:= .tuple #[.agg #[.int .u64 m.ver,.bool true,.int .i64 (P[j]'hjl).key],.int .i64 0]) (by simp[results,results19,go_sem,(e0 0),(e0 1),(e0 2)]) rfl ?_
  exact⟨rfl,(((HBz.out.setCell (p:=⟨(w.heap.size+2),0,none⟩) (by show w.heap.size<=(w.heap.size+2);omega) _).setCell (p:=⟨(w.heap.size+2),1,none⟩) (by show w.heap.size<=(w.heap.size+2);omega) _).setCell (p:=⟨(w.heap.size+2),2,none⟩) (by show w.heap.size<=(w.heap.size+2);omega) _)⟩
theorem Bh (m:Mv) (cu:Cu) (w:World) (hs:MvAt w m) (ho:MvOk m) (hcp:m.ps.cs.length<=m.ps.cc) (hcb:m.bs.cs.length<=m.bs.cc) (hz:cO m cu=0):
  Calls prog 17 #[.agg m.row,.agg cu.row] w fun r w'=>r= .returned (.tuple #[.agg (dM m.ver (allM m) (dA (allM m) cu.key true)).row,.int .i64 (il (allM m) (dA (allM m) cu.key true))])/\Below w.heap.size w w':=by
 obtain⟨he,hv,hon⟩:=tH hz
 obtain⟨ver,on,key⟩:=cu
 dsimp only at hv hon ⊢
 subst hv
 subst hon
 obtain⟨W0,hW0⟩:∃W,(((w.alloc (.cells m.row 42)).alloc (.cells #[.int .u64 m.ver,.bool true,.int .i64 key] 44)).alloc (.cells #[.int .u64 0,.bool false,.int .i64 0] 44))=W:=⟨_,rfl⟩
 have hb0:Below w.heap.size w W0:=by rw[<-hW0];exact((((Lg _ _).alloc (by first|exact Lf _|(simp;done)|(simp;omega)) _).alloc (by first|exact Lf _|(simp;done)|(simp;omega)) _).alloc (by first|exact Lf _|(simp;done)|(simp;omega)) _)
 have bq0:Blk W0 w.heap.size 42 m.row:=by rw[<-hW0];exact(((Blk.new _ _ _).alloc _).alloc _)
 have HQ0:=Lc bq0
 have bq1:Blk W0 (w.heap.size+1) 44 #[.int .u64 m.ver,.bool true,.int .i64 key]:=by rw[<-hW0];exact((aj (by simp)).alloc _)
 have HQ1:=Lc bq1
 have bq2:Blk W0 (w.heap.size+2) 44 #[.int .u64 0,.bool false,.int .i64 0]:=by rw[<-hW0];exact(aj (by simp))
 have HQ2:=Lc bq2
 have HW0:=Lc hW0
 have HB0:=Lc hb0
 clear hW0 hb0 bq0 bq1 bq2
 have hin:=GU m m.ver key W0 (hs.below HB0.out) ho hcp hcb he rfl
 have hln:=fG ho he
 have hri:=jI he
 obtain⟨P,hP⟩:∃P,allM m=P:=⟨_,rfl⟩
 rw[hP]at hin hln hri ⊢
 have HIN:=Lc hin
 have HLN:=Lc hln
 have HRI:=Lc hri
 have hKl:=mU P key
 obtain⟨C,hC⟩:∃C,dM m.ver P (dA P key true)=C:=⟨_,rfl⟩
 obtain⟨D,hD⟩:∃D,il P (dA P key true)=D:=⟨_,rfl⟩
 rw[hC,hD]
 have HCC:=Lc hC
 have HDD:=Lc hD
 have hrk:=fun gp A c W (h1:Blk W gp 82 (jd m.ver true key A P c)) (h2:Sl W A (P.flatMap Pr.cells)) (h3:P.length<=c)=>kE gp m.ver true key A P c key W h1 h2 h3 hln hri
 obtain⟨K,hK⟩:∃K,bel P key=K:=⟨_,rfl⟩
 rw[hK]at hrk hKl
 have HRK:=Lc hrk
 have HKE:=Lc hK
 have HKL:=Lc hKl
 clear hin hln hri hs ho hcp hcb hK hKl hP he hC hD hrk hz
 have a0:=HQ1.out.cell
 go_enter func17,ntmps17
 go_upto_region 1 with fail
 rw[HW0.out]
 try dsimp only[]
 repeat (first|refine LK rfl 42 (.tmp 2) rfl w.heap.size 0 rfl _ _ (ae HQ0.out 0 46 rfl) underlying42 rfl af ?_|refine LY 42 (.tmp 2) rfl w.heap.size 0 rfl _ _ (ae HQ0.out 0 46 rfl) underlying42 rfl af ?_|go_values|go_skip|go_guarded|go_step|go_upon)
 refine HIN.out.mono ?_
 rintro e w1 ⟨gp,A,c,rfl,hgp,hpl,hsl,hlc,hne,hb1⟩
 have HB1:=Lc (aa HB0.out hb1)
 have HQ11:=Lc (HQ1.out.below hb1 HQ1.out.lt)
 have HQ21:=Lc (HQ2.out.below hb1 HQ2.out.lt)
 have HPL:=Lc hpl
 have HSL:=Lc hsl
 have HLC:=Lc hlc
 have HNE:=Lc hne
 have HGP:=Lc (show w.heap.size+3<=gp by have:=HQ2.out.lt;omega)
 clear hb1 hpl hsl hlc hne hgp a0
 have a0:=HQ11.out.cell
 go_wp2_with fail
 refine(HRK.out gp A c w1 HPL.out HSL.out HLC.out).mono ?_
 rintro e w2 ⟨rfl,hb2⟩
 have HB2:=Lc (aa HB1.out hb2)
 have HQ12:=Lc (HQ11.out.below hb2 HQ11.out.lt)
 have HQ22:=Lc (HQ21.out.below hb2 HQ21.out.lt)
 have HPM:=Lc (HPL.out.below hb2 HPL.out.lt)
 have HSM:=Lc (HSL.out.below hb2)
 clear hb2 a0
 have hbk:=mi P key
 obtain⟨V,hV⟩:∃V,decide (∃h:K< P.length,(P[K]'h).key=key)=V:=⟨_,rfl⟩
 obtain⟨J,hJ⟩:∃J,(if V=true then K+1 else K)=J:=⟨_,rfl⟩
 have HMK:=Lc (show dA P key true=(J:Int)by
  unfold dA qR
  rw[if_pos rfl,HKE.out,<-hJ,<-hV]
  by_cases h:K< P.length
  ·by_cases h2:(P[K]'h).key=key
   ·rw[if_pos ⟨h,by rw[getElem!_pos P K h];exact h2⟩,if_pos (decide_eq_true ⟨h,h2⟩)]
   ·rw[if_neg (fun q=>h2 (by have:=q.2;rw[getElem!_pos P K h]at this;exact this)),if_neg (fun q=>h2 (of_decide_eq_true q).2)]
  ·rw[if_neg (fun q=>h q.1),if_neg (fun q=>h (of_decide_eq_true q).1)])
 have HJ:=Lc hJ
 have HV:=Lc hV
 have lg:=HPM.out.lt
 have lq:=HQ12.out.lt
 have q3:=HPM.out.cell
 have q1:=HQ12.out.cell
 clear hbk hJ hV
 go_upto_region 5 with fail
 go_cut [42]from 23 to 42 (fun v wx=>v= .bool V/\Below w2.heap.size w2 wx)
 case first=>
  by_cases hlt:K< P.length
  case neg=>
   obtain rfl:V=false:=by rw[<-HV.out];exact decide_eq_false (fun h=>hlt h.1)
   have y0:¬((K:Nat):Int)< ((P.length:Nat):Int):=by omega
   refine aD (by kernel_rfl) 20 [.v [] fun v=>v 0= .int .i64 (K:Nat),.v [] fun v=>v 1= .pointer (some ⟨gp,0,none⟩),.v [1] fun v=>v 2= .pointer (some ⟨gp,0,none⟩),.v [2] fun v=>v 3= .pointer (some ⟨gp,3,none⟩),.v [3] fun v=>v 4= .slice A P.length c,.v [4] fun v=>v 5= .int .i64 (P.length:Nat),.v [0,5] fun v=>v 6= .bool false,.v [6] fun v=>v 7= .bool false,.v [7] fun v=>v 8=undef,.v [7] fun v=>v 9=undef,.v [7] fun v=>v 10=undef,.v [7] fun v=>v 11=undef,.v [7] fun v=>v 12=undef,.v [7] fun v=>v 13=undef,.v [7] fun v=>v 14=undef,.v [7] fun v=>v 15=undef,.v [7] fun v=>v 16=undef,.v [7] fun v=>v 17=undef,.v [7] fun v=>v 18=undef,.v [7] fun v=>v 19= .bool false] [19] rfl rfl (by kernel_rfl) (by kernel_rfl) ⟨_,fun v=>by simp only[nM,Act.put,LM,Mi,Mc];rfl,?_⟩
   simp only[iy,og,dD,dG,fQ,mO,tw_none,L8,List.range.loop,MS,Lm,Ll,TEnt.v,TEnt.w,RB,RM,M9,Nh,decide_true,decide_false,Mt,MH,Me,Mf,if_true,if_false,↓reduceIte,LW,List.length_cons,List.length_nil]
   refine⟨?_,?_,?_,?_,?_,?_,?_,?_,?_,?_,?_,?_,?_,?_,?_,?_,?_,?_,?_,?_,fun v W hb=>?_⟩
   all_goals try intro v W K hb hK
   all_goals have hc:=(aL hb).1
   all_goals try ((first|(intro a b;rw[a,b]at hK ⊢)|(intro a;rw[a]at hK ⊢)|skip);go_wp2_with fail;exact hK _ _ (Lg _ _) rfl)
   intro h19
   rw[h19]
   go_wp2_with fail
   go_meet
   exact⟨rfl,hb⟩
  case pos=>
  obtain⟨b,off,rfl,hbl,c1,c2⟩:=HSM.out.prB (Lg _ w2) K hlt
  obtain⟨p,hp⟩:∃p,P[K]'hlt=p:=⟨_,rfl⟩
  rw[hp]at c1
  obtain rfl:V=(p.key==key):=by rw[<-HV.out,<-hp,Bool.eq_iff_iff];simp[hlt]
  have y0:((K:Nat):Int)< ((P.length:Nat):Int):=by omega
  have y1:(0:Int)<=((K:Nat):Int):=by omega
  clear c2 hp
  refine aD (by kernel_rfl) 20 [.v [] fun v=>v 0= .int .i64 (K:Nat),.v [] fun v=>v 1= .pointer (some ⟨gp,0,none⟩),.v [1] fun v=>v 2= .pointer (some ⟨gp,0,none⟩),.v [2] fun v=>v 3= .pointer (some ⟨gp,3,none⟩),.v [3] fun v=>v 4= .slice (some ⟨b,off,none⟩) P.length c,.v [4] fun v=>v 5= .int .i64 (P.length:Nat),.v [0,5] fun v=>v 6= .bool true,.v [6] fun v=>v 7= .bool true,.v [7] fun v=>v 8= .pointer (some ⟨gp,0,none⟩),.v [7,8] fun v=>v 9= .pointer (some ⟨gp,0,none⟩),.v [7,9] fun v=>v 10= .pointer (some ⟨gp,3,none⟩),.v [7,10] fun v=>v 11= .slice (some ⟨b,off,none⟩) P.length c,.v [7] fun v=>v 12= .int .i64 (K:Nat),.v [7,11,12] fun v=>v 13= .pointer (some ⟨b,off+K*2,none⟩),.v [7,13] fun v=>v 14= .pointer (some ⟨b,off+K*2,none⟩),.v [7,14] fun v=>v 15= .int .i64 p.key,.v [7] fun v=>v 16= .pointer (some ⟨w.heap.size+1,2,none⟩),.v [7,16] fun v=>v 17= .int .i64 key,.v [7,15,17] fun v=>v 18= .bool (p.key==key),.v [7,18] fun v=>v 19= .bool (p.key==key)] [19] rfl rfl (by kernel_rfl) (by kernel_rfl) ⟨_,fun v=>by simp only[nM,Act.put,LM,Mi,Mc];rfl,?_⟩
  simp only[iy,og,dD,dG,fQ,mO,tw_none,L8,List.range.loop,MS,Lm,Ll,TEnt.v,TEnt.w,RB,RM,M9,Nh,decide_true,decide_false,Mt,MH,Me,Mf,if_true,if_false,↓reduceIte,LW,List.length_cons,List.length_nil]
  refine⟨?_,?_,?_,?_,?_,?_,?_,?_,?_,?_,?_,?_,?_,?_,?_,?_,?_,?_,?_,?_,fun v W hb=>?_⟩
  all_goals try intro v W K hb hK
  all_goals have hc:=(aL hb).1
  all_goals try ((first|(intro a b c;rw[a,b,c]at hK ⊢)|(intro a b;rw[a,b]at hK ⊢)|(intro a;rw[a]at hK ⊢)|skip);go_wp2_with fail;exact hK _ _ (Lg _ _) rfl)
  intro h19
  rw[h19]
  go_wp2_with fail
  go_meet
  exact⟨rfl,hb⟩
 case rest=>
 obtain⟨rfl,hb3⟩:=hcut
 have HB3:=Lc (aa HB2.out hb3)
 have HQ23:=Lc (HQ22.out.below hb3 HQ22.out.lt)
 have HPN:=Lc (HPM.out.below hb3 HPM.out.lt)
 have HSN:=Lc (HSM.out.below hb3)
 clear hb3 q3 q1 lg lq
 go_upto_if 42 with fail
 go_cut [8]from 43 to 44 (fun v wx=>v= .int .i64 (J:Int)/\wx=wc)
 case first=>
  cases V with
  |false=>
   obtain rfl:K=J:=HJ.out
   go_wp2_with fail
   go_meet
   exact⟨rfl,rfl⟩
  |true=>
   have hw:∀[Inhabited Nat],wrap64 ((K:Int)+1)=(J:Int):=by intro _;rw[IntWalk.wrap64_in _ (by have:=HKL.out;have:=HLN.out;omega),<-HJ.out];simp
   go_wp2_with fail
   go_meet
   exact⟨rfl,rfl⟩
 case rest=>
 obtain⟨rfl,rfl⟩:=hcut
 by_cases hr:0<=((J:Nat):Int)/\((J:Nat):Int)< P.length
 case neg=>
  have hcu:=rM (ver:=m.ver) hr
  obtain rfl:C=lF:=by rw[<-HCC.out,HMK.out];exact hcu.1
  obtain rfl:D=6:=by rw[<-HDD.out,HMK.out];exact hcu.2
  clear hcu
  have hto:=Cj gp _ _ _ _ _ _ ((J:Nat):Int) wc HPN.out hr
  have HTO:=Lc hto
  clear hto hr
  go_wp2_with fail
  refine HTO.out.mono ?_
  rintro e w5 ⟨rfl,hb5⟩
  have HBz:=Lc (aa HB3.out hb5)
  have HQz:=Lc (HQ23.out.below hb5 HQ23.out.lt)
  clear hb5
  have d0:=HQz.out.cell
  have f0:=HQz.out.frozen
  go_wp2_with fail
  have hR:=Lc (HQz.out.set3 (.int .u64 lF.ver) (.bool lF.on) (.int .i64 lF.key))
  have e0:=hR.out.cell
  simp only[LB,Lm,Ll]at e0
  refine Li (v:= .tuple #[.agg #[.int .u64 lF.ver,.bool lF.on,.int .i64 lF.key],.int .i64 6]) (by simp[results,results17,go_sem,(e0 0),(e0 1),(e0 2)]) rfl ?_
  exact⟨rfl,(((HBz.out.setCell (p:=⟨(w.heap.size+2),0,none⟩) (by show w.heap.size<=(w.heap.size+2);omega) _).setCell (p:=⟨(w.heap.size+2),1,none⟩) (by show w.heap.size<=(w.heap.size+2);omega) _).setCell (p:=⟨(w.heap.size+2),2,none⟩) (by show w.heap.size<=(w.heap.size+2);omega) _)⟩
 case pos=>
  have hjl:J< P.length:=by omega
  have hcu:=pz (ver:=m.ver) hjl
  obtain rfl:C=⟨m.ver,true,(P[J]'hjl).key⟩:=by rw[<-HCC.out,HMK.out];exact hcu.1
  obtain rfl:D=0:=by rw[<-HDD.out,HMK.out];exact hcu.2
  clear hcu
  have hto:=vX gp _ _ _ _ _ _ (J) wc HPN.out HSN.out hjl (fun a ha=>(HNE.out a ha).2)
  have HTO:=Lc hto
  clear hto hr
  go_wp2_with fail
  refine HTO.out.mono ?_
  rintro e w5 ⟨rfl,hm5,hb5⟩
  have HBz:=Lc (HB3.out.trans (hm5.below HB3.out.size (fun b hb=>by have hb:b=gp:=hb;have:=HGP.out;omega)))
  have HQz:=Lc (HQ23.out.mod hm5 (fun q=>by have q:w.heap.size+2=gp:=q;have:=HGP.out;omega))
  clear hb5 hm5
  have d0:=HQz.out.cell
  have f0:=HQz.out.frozen
  go_wp2_with fail
  have hR:=Lc (HQz.out.set3 (.int .u64 m.ver) (.bool true) (.int .i64 (P[J]'hjl).key))
  have e0:=hR.out.cell
  simp only[LB,Lm,Ll]at e0
  refine Li (v:= .tuple #[.agg #[.int .u64 m.ver,.bool true,.int .i64 (P[J]'hjl).key],.int .i64 0]) (by simp[results,results17,go_sem,(e0 0),(e0 1),(e0 2)]) rfl ?_
  exact⟨rfl,(((HBz.out.setCell (p:=⟨(w.heap.size+2),0,none⟩) (by show w.heap.size<=(w.heap.size+2);omega) _).setCell (p:=⟨(w.heap.size+2),1,none⟩) (by show w.heap.size<=(w.heap.size+2);omega) _).setCell (p:=⟨(w.heap.size+2),2,none⟩) (by show w.heap.size<=(w.heap.size+2);omega) _)⟩
end Go.Proofs.YtpbmbjjfdpkhbaaGreat
