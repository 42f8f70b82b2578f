/- part of the proof -/
import Derived.Test.YtpbmbjjfdpkhbaaGreatZw16
import Derived.Test.YtpbmbjjfdpkhbaaGreatZw10
import Derived.Deep.Cut
import Derived.Deep.CutRange
import Derived.Test.YtpbmbjjfdpkhbaaGreatZw5
import Derived.Test.YtpbmbjjfdpkhbaaGreatZw8
import Derived.Test.YtpbmbjjfdpkhbaaGreatZw4
import Derived.ProofKit
import Derived.OpenShut
import Derived.JoinedCond
import Derived.Deep.Slices
import Derived.Test.YtpbmbjjfdpkhbaaGreatZw1
import Derived.Test.YtpbmbjjfdpkhbaaGreatProg
import Derived.Test.YtpbmbjjfdpkhbaaGreatZw9
namespace Go.Proofs.YtpbmbjjfdpkhbaaGreat
open Go Go.RowKit
set_option linter.all false
set_option maxRecDepth 100000
set_option maxHeartbeats 32000000
open Go.Proofs.Tryz
open Below renaming refl->KR
open Bool renaming false_ne_true->KP
open Go renaming all_oneCell_toArray->Ld,bodyPost_ret->KV,wpList_load_mid->Mi,wpOp_step->KT
open Go.DataW renaming trod->Lu,trod_int->Mh,trod_struct->M5
open Go.Lib renaming hid->KO
open Go.Value renaming int->LB,oneCell'->K5
open List renaming drop->Ls,take->LP,take_of_length_le->KZ
open Nat renaming le_refl->KS,mul_comm->LQ,zero_le->K8
open Option.some renaming inj->KQ
theorem qG {P:Prop} (h:P:=by
  iterate 3 apply Exists.intro
  refine⟨rfl,?_,?_,?_,?_,?_,?_,?_⟩
  ·first|exact HB0.out|(intro h;refine absurd h ?_;simp;done;done)
  ·first|exact fun _=>rfl|exact F0.out
  ·first|exact F1.out|exact fun _=>rfl
  ·first|exact F2.out|exact(fun _=>⟨(Mod.of_ext HB.out).trans (aL (S:=fun k=>k=(w.heap.size+2)) rfl _ 0 _),by simpa[dn]using Blk.setCells (#[.int .u64 cu.ver,.bool cu.on,.int .i64 cu.key]:Array Value).toList 0 _ _ hbk⟩)
  ·first|exact F3.out|exact fun _=>rfl
  ·first|(intro h;have hh:=C2.out (by simpa using h);simp[hh];done)|(intro _;simp[hl0,hl1];done)
  ·first|(intro h;have hh:=C3.out (by simpa using h);simp[hh];done)|(intro _;simp[hl2];done)):P:=h
theorem wQ (m:Mv) (cu:Cu) (most:Int) (w:World) (hs:MvAt w m) (ho:MvOk m) (hz:dA m cu=0) (hm:most=0):
  Calls prog 8 #[.agg m.row,.agg cu.row,.int .i64 most] w (jZ [] cu 0 w):=by
 obtain⟨W0,hW0⟩:∃W,(((w.alloc (.cells m.row 42)).alloc (.cells #[.int .u64 cu.ver,.bool cu.on,.int .i64 cu.key] 44)).alloc (.cells #[.int .u64 0,.bool false,.int .i64 0] 44))=W:=⟨_,rfl⟩
 have hb0:Below w.heap.size w W0:=by rw[<-hW0];exact((((KR _ _).alloc (by first|exact KS _|(simp;done)|(simp;omega)) _).alloc (by first|exact KS _|(simp;done)|(simp;omega)) _).alloc (by first|exact KS _|(simp;done)|(simp;omega)) _)
 have bq0:Blk W0 w.heap.size 42 m.row:=by rw[<-hW0];exact(((Blk.new _ _ _).alloc _).alloc _)
 have HQ0:=KO bq0
 have bq1:Blk W0 (w.heap.size+1) 44 #[.int .u64 cu.ver,.bool cu.on,.int .i64 cu.key]:=by rw[<-hW0];exact((aj (by simp)).alloc _)
 have HQ1:=KO bq1
 have bq2:Blk W0 (w.heap.size+2) 44 #[.int .u64 0,.bool false,.int .i64 0]:=by rw[<-hW0];exact(aj (by simp))
 have HQ2:=KO bq2
 have HW0:=KO hW0
 have HB0:=KO hb0
 clear hW0 hb0 bq0 bq1 bq2
 have hem:aV m=0:=by
  rw[fQ]at hz
  by_cases h:aV m=0
  ·exact h
  ·rw[if_neg h]at hz;exact absurd hz h
 have hoz:Fu m cu=0:=by rw[fQ,if_pos hem]at hz;exact hz
 have has:=gM m W0 (hs.below HB0.out) ho
 have hof:=fun W=>kW m cu W
 rw[hem,if_pos rfl]at has
 rw[hoz]at hof
 have HOF:=KO hof
 have HAS:=KO has
 have a0:W0.cell? ⟨(w.heap.size+1),0,none⟩=some (.int .u64 cu.ver):=HQ1.out.cell 0
 have a1:W0.cell? ⟨(w.heap.size+1),1,none⟩=some (.bool cu.on):=HQ1.out.cell 1
 have a2:W0.cell? ⟨(w.heap.size+1),2,none⟩=some (.int .i64 cu.key):=HQ1.out.cell 2
 subst hm
 have hft:∀W,Calls prog 34 #[.int .i64 0] W (fun r w'=>r= .returned (.bool true)/\Below W.heap.size W w'):=fun W=>by have:=ku 0 W;rw[decide_eq_true (show 0<=(0:Int)/\(0:Int)<=1000 by omega)]at this;exact this
 have HFT:=KO hft
 clear has hof hem hoz hz hs ho hft
 go_enter func8,ntmps8
 go_upto_region 1 with fail
 rw[HW0.out]
 try dsimp only[]
 repeat (first|refine eX HQ0.out 0 underlying42 af rfl rfl rfl rfl ?_|go_values|go_skip|go_guarded|go_step|go_upon)
 refine HAS.out.mono ?_
 rintro e w1 ⟨A,c,rfl,ho1,hb1⟩
 have HB1:=KO (aa HB0.out hb1)
 have HQ01:=KO (HQ0.out.below hb1 HQ0.out.lt)
 have HQ11:=KO (HQ1.out.below hb1 HQ1.out.lt)
 have HQ21:=KO (HQ2.out.below hb1 HQ2.out.lt)
 have HOW:=KO ho1
 clear hb1 ho1 a0 a1 a2
 have a0:w1.cell? ⟨(w.heap.size+1),0,none⟩=some (.int .u64 cu.ver):=HQ11.out.cell 0
 have a1:w1.cell? ⟨(w.heap.size+1),1,none⟩=some (.bool cu.on):=HQ11.out.cell 1
 have a2:w1.cell? ⟨(w.heap.size+1),2,none⟩=some (.int .i64 cu.key):=HQ11.out.cell 2
 go_upto_region 3 with fail
 try dsimp only[]
 repeat (first|refine eX HQ01.out 0 underlying42 af rfl rfl rfl rfl ?_|go_values|go_skip|go_guarded|go_step|go_upon)
 refine(HOF.out _).mono ?_
 rintro e w2 ⟨rfl,hb2⟩
 have HB2:=KO (aa HB1.out hb2)
 have HQ02:=KO (HQ01.out.below hb2 HQ01.out.lt)
 have HQ12:=KO (HQ11.out.below hb2 HQ11.out.lt)
 have HQ22:=KO (HQ21.out.below hb2 HQ21.out.lt)
 have HSM:=KO ((aA HOW.out).below hb2)
 clear hb2 a0 a1 a2
 have a0:w2.cell? ⟨(w.heap.size+1),0,none⟩=some (.int .u64 cu.ver):=HQ12.out.cell 0
 have a1:w2.cell? ⟨(w.heap.size+1),1,none⟩=some (.bool cu.on):=HQ12.out.cell 1
 have a2:w2.cell? ⟨(w.heap.size+1),2,none⟩=some (.int .i64 cu.key):=HQ12.out.cell 2
 go_wp2_with fail
 refine(HFT.out _).mono ?_
 rintro e w3 ⟨rfl,hb3⟩
 have HB3:=KO (aa HB2.out hb3)
 have HQ03:=KO (HQ02.out.below hb3 HQ02.out.lt)
 have HQ13:=KO (HQ12.out.below hb3 HQ12.out.lt)
 have HQ23:=KO (HQ22.out.below hb3 HQ22.out.lt)
 have HSN:=KO (HSM.out.below hb3)
 clear hb3 a0 a1 a2
 have a0:w3.cell? ⟨(w.heap.size+1),0,none⟩=some (.int .u64 cu.ver):=HQ13.out.cell 0
 have a1:w3.cell? ⟨(w.heap.size+1),1,none⟩=some (.bool cu.on):=HQ13.out.cell 1
 have a2:w3.cell? ⟨(w.heap.size+1),2,none⟩=some (.int .i64 cu.key):=HQ13.out.cell 2
 clear a0 a1 a2
 go_upto_region 9 with fail
 refine aH (by kernel_rfl) (by kernel_rfl) (fun L a W=>∃(t38 t6 t8:Value),a=⟨#[.agg m.row,Value.agg cu.row,.int .i64 0,.pointer (some ⟨w.heap.size,0,none⟩),.pointer (some ⟨w.heap.size+1,0,none⟩),undef,t6,.pointer (some ⟨w.heap.size+1+1,0,none⟩),t8,.slice A (allM m).length c,.int .i64 0,undef,undef,undef,undef,Value.tuple #[.slice A (allM m).length c,.int .i64 0],.agg m.row,Value.tuple #[.slice A (allM m).length c,.int .i64 0],.slice A (allM m).length c,.int .i64 0,.int .i64 0,.bool true,.agg m.row,Value.agg #[.int .u64 cu.ver,.bool cu.on,.int .i64 cu.key],.int .i64 0,.int .i64 0,.bool true,.bool true,.int .i64 0,.bool true,.bool false,.bool false,.int .i64 0,.bool false,undef,undef,.int .i64 0,.bool true,t38,undef,undef,undef,undef,undef,undef,undef,undef,undef,undef,undef,undef,undef,undef,undef,undef,undef,undef,undef,undef,undef,undef,undef,undef,undef,undef,undef,undef,undef],[]⟩/\(L 2=false->Below w3.heap.size w3 W)/\(L 0=true->t38= .agg #[.int .u64 cu.ver,.bool cu.on,.int .i64 cu.key])/\(L 1=true->t6= .slice none 0 0)/\(L 2=true->Mod (fun k=>k=(w.heap.size+2)) w3 W/\Blk W (w.heap.size+2) 44 #[.int .u64 cu.ver,.bool cu.on,.int .i64 cu.key])/\(L 3=true->t8= .int .i64 0)/\(L 2=true->L 0=true/\L 1=true)/\(L 3=true->L 2=true)) ?h09 ?hstep9 ?hend9
 case h09=>exact⟨undef,Value.slice none 0 0,LB IntKind.i64 0,rfl,fun _=>(KR _ _).drew,fun h=>absurd h KP,fun h=>absurd h KP,fun h=>absurd h KP,fun h=>absurd h KP,fun h=>absurd h KP,fun h=>absurd h KP⟩
 case hend9=>
  rintro L a W hall ⟨t38,t6,t8,rfl,hb,f0,f1,f2,f3,c2,c3⟩
  have z0:=f0 (hall 0 (by decide))
  have z1:=f1 (hall 1 (by decide))
  have z2:=f2 (hall 2 (by decide))
  have z3:=f3 (hall 3 (by decide))
  clear hall f0 f1 f2 f3 c2 c3 hb
  have HR3:=KO z2.2
  have HM3:=KO z2.1
  clear z0 z2
  obtain rfl:=z1
  obtain rfl:=z3
  have e0:W.cell? ⟨(w.heap.size+2),0,none⟩=some (.int .u64 cu.ver):=HR3.out.cell 0
  have e1:W.cell? ⟨(w.heap.size+2),1,none⟩=some (.bool cu.on):=HR3.out.cell 1
  have e2:W.cell? ⟨(w.heap.size+2),2,none⟩=some (.int .i64 cu.key):=HR3.out.cell 2
  go_wp2_with fail
  refine KV (v:= .tuple #[.slice none 0 0,.agg #[.int .u64 cu.ver,.bool cu.on,.int .i64 cu.key],.int .i64 0]) (by simp[results,results8,go_sem,e0,e1,e2]) rfl ?_
  have hbz:Below w.heap.size w W:=HB3.out.trans (HM3.out.below HB3.out.size (fun b hb=>by have hb:b=(w.heap.size+2):=hb;omega))
  exact⟨none,0,rfl,.inl rfl,hbz⟩
 case hstep9=>
  rintro L a W i o ho hLi hdep ⟨t38,t6,t8,rfl,hb,f0,f1,f2,f3,c2,c3⟩
  have F0:=KO f0
  have F1:=KO f1
  have F2:=KO f2
  have F3:=KO f3
  have C2:=KO c2
  have C3:=KO c3
  have HB0:=KO hb
  clear hb f0 f1 f2 f3 c2 c3
  have HLi:=KO hLi
  clear hLi
  match i,ho with
  |0,ho=>
   obtain rfl:=KQ ho
   clear hdep
   have hlast:L 2=false:=by
    cases h:L 2 with
    |false=>rfl
    |true=>exact absurd ((C2.out h).1) (by rw[HLi.out];exact KP)
   have HB:=KO (HB0.out hlast)
   have q0:W.cell? ⟨w.heap.size+1,0,none⟩=some (.int .u64 cu.ver):=(HQ13.out.below HB.out HQ13.out.lt).cell 0
   have q1:W.cell? ⟨w.heap.size+1,1,none⟩=some (.bool cu.on):=(HQ13.out.below HB.out HQ13.out.lt).cell 1
   have q2:W.cell? ⟨w.heap.size+1,2,none⟩=some (.int .i64 cu.key):=(HQ13.out.below HB.out HQ13.out.lt).cell 2
   refine KT rfl (fun K1 hK1=>?_)
   have hK:=KO hK1
   clear hK1
   go_wp2_with fail
   refine hK.out _ _ ?_;exact qG
  |1,ho=>
   obtain rfl:=KQ ho
   clear hdep
   have hlast:L 2=false:=by
    cases h:L 2 with
    |false=>rfl
    |true=>exact absurd ((C2.out h).2) (by rw[HLi.out];exact KP)
   have HB:=KO (HB0.out hlast)
   refine KT rfl (fun K1 hK1=>?_)
   have hK:=KO hK1
   clear hK1
   go_wp2_with fail
   refine hK.out _ _ ?_;exact qG
  |2,ho=>
   obtain rfl:=KQ ho
   have hl0:=hdep ⟨0,.data⟩ (by simp) rfl
   obtain rfl:=F0.out hl0
   have hl1:=hdep ⟨1,.chain⟩ (by simp) rfl
   obtain rfl:=F1.out hl1
   clear hdep
   have hlast:=HLi.out
   have HB:=KO (HB0.out hlast)
   refine KT rfl (fun K1 hK1=>?_)
   have hK:=KO hK1
   clear hK1
   have hbk:=HQ23.out.below HB.out HQ23.out.lt
   refine aF rfl 44 (.tmp 7) (.tmp 38) rfl (w.heap.size+2) 0 #[.int .u64 cu.ver,.bool cu.on,.int .i64 cu.key] rfl rfl (aY hbk 0 3 (by simp)) gD (Ld (by simp[K5])) ?_
   refine hK.out _ _ ?_;exact qG
  |3,ho=>
   obtain rfl:=KQ ho
   have hl2:=hdep ⟨2,.chain⟩ (by simp) rfl
   clear hdep
   refine KT rfl (fun K1 hK1=>?_)
   have hK:=KO hK1
   clear hK1
   go_wp2_with fail
   refine hK.out _ _ ?_;exact qG
theorem gJ {P:Prop} (h:P:=by
  iterate 12 apply Exists.intro
  refine⟨rfl,?_,?_,?_,?_,?_,?_,?_,?_,?_,?_,?_,?_,?_,?_,?_,?_⟩
  ·first|exact HB0.out|exact fun _=>aa HB.out hb1|(intro h;refine absurd h ?_;simp;done;done)
  ·first|exact F0.out|exact fun _=>rfl
  ·first|exact F1.out|exact fun _=>rfl
  ·first|exact F2.out|exact fun _=>rfl
  ·first|exact F3.out|exact fun _=>rfl
  ·first|exact F4.out|exact fun _=>rfl
  ·first|exact(fun h=>⟨(F5.out (by simpa using h)).1,(F5.out (by simpa using h)).2.step (aL (S:=(fun k=>k< B5.heap.size)) HQ25.out.lt _ 0 _)⟩)|exact F5.out|exact fun _=>⟨rfl,hh4⟩|exact fun h=>⟨rfl,zz5.out⟩|exact(fun h=>⟨(F5.out (by simpa using h)).1,(F5.out (by simpa using h)).2.ext hb1⟩)
  ·first|exact F6.out|exact fun _=>rfl
  ·first|exact F7.out|exact fun _=>rfl|exact(fun h=>absurd (show L 7=true by simpa using h) (by intro h;exact absurd ((C7.out h)) (by rw[HLi.out];exact KP)))
  ·first|exact F8.out|exact(fun h=>absurd (show L 8=true by simpa using h) (by rw[hlast];exact KP))|exact(fun _=>⟨(Mod.of_ext HB.out).trans (aL (S:=fun k=>k=(w.heap.size+2)) rfl _ 0 _),by simpa[dn]using Blk.setCells (#[.int .u64 m.ver,.bool true,.int .i64 p.key]:Array Value).toList 0 _ _ hbk⟩)
  ·first|exact F9.out|exact fun _=>rfl
  ·first|(intro h;have hh:=C4.out (by simpa using h);simp[hh];done)|(intro _;simp[hl1,hl2,hl3];done)
  ·first|(intro h;have hh:=C5.out (by simpa using h);simp[hh];done)|(intro _;simp[hl0,hl4];done)
  ·first|(intro h;have hh:=C7.out (by simpa using h);simp[hh];done)|(intro _;simp[hl5];done)
  ·first|(intro h;have hh:=C8.out (by simpa using h);simp[hh];done)|(intro _;simp[hl6,hl7];done)
  ·first|(intro h;have hh:=C9.out (by simpa using h);simp[hh];done)|(intro _;simp[hl8];done)):P:=h
theorem Dm (m:Mv) (cu:Cu) (most:Int) (n K T:Nat) (p:Pr) (w:World) (hs:MvAt w m) (ho:MvOk m) (hz:dA m cu=0) (hm:most=((n:Nat):Int)) (hn:0< n/\n<=1000) (hK:bel (allM m) cu.key=K) (hT:K+n=T) (hl:T< (allM m).length) (hp:(allM m)[T]! =p):
  Calls prog 8 #[.agg m.row,.agg cu.row,.int .i64 most] w (jZ (((allM m).drop K).take (T-K)) ⟨m.ver,true,p.key⟩ 0 w):=by
 obtain⟨W0,hW0⟩:∃W,(((w.alloc (.cells m.row 42)).alloc (.cells #[.int .u64 cu.ver,.bool cu.on,.int .i64 cu.key] 44)).alloc (.cells #[.int .u64 0,.bool false,.int .i64 0] 44))=W:=⟨_,rfl⟩
 have hb0:Below w.heap.size w W0:=by rw[<-hW0];exact((((KR _ _).alloc (by first|exact KS _|(simp;done)|(simp;omega)) _).alloc (by first|exact KS _|(simp;done)|(simp;omega)) _).alloc (by first|exact KS _|(simp;done)|(simp;omega)) _)
 have bq0:Blk W0 w.heap.size 42 m.row:=by rw[<-hW0];exact(((Blk.new _ _ _).alloc _).alloc _)
 have HQ0:=KO bq0
 have bq1:Blk W0 (w.heap.size+1) 44 #[.int .u64 cu.ver,.bool cu.on,.int .i64 cu.key]:=by rw[<-hW0];exact((aj (by simp)).alloc _)
 have HQ1:=KO bq1
 have bq2:Blk W0 (w.heap.size+2) 44 #[.int .u64 0,.bool false,.int .i64 0]:=by rw[<-hW0];exact(aj (by simp))
 have HQ2:=KO bq2
 have HW0:=KO hW0
 have HB0:=KO hb0
 clear hW0 hb0 bq0 bq1 bq2
 have hem:aV m=0:=by
  rw[fQ]at hz
  by_cases h:aV m=0
  ·exact h
  ·rw[if_neg h]at hz;exact absurd hz h
 have hoz:Fu m cu=0:=by rw[fQ,if_pos hem]at hz;exact hz
 have has:=gM m W0 (hs.below HB0.out) ho
 have hof:=fun W=>kW m cu W
 rw[hem,if_pos rfl]at has
 rw[hoz]at hof
 have HOF:=KO hof
 have HAS:=KO has
 have a0:W0.cell? ⟨(w.heap.size+1),0,none⟩=some (.int .u64 cu.ver):=HQ1.out.cell 0
 have a1:W0.cell? ⟨(w.heap.size+1),1,none⟩=some (.bool cu.on):=HQ1.out.cell 1
 have a2:W0.cell? ⟨(w.heap.size+1),2,none⟩=some (.int .i64 cu.key):=HQ1.out.cell 2
 subst hm
 have hft:∀W,Calls prog 34 #[.int .i64 ((n:Nat):Int)] W (fun r w'=>r= .returned (.bool true)/\Below W.heap.size W w'):=fun W=>by have:=ku ((n:Nat):Int) W;rw[decide_eq_true (show 0<=(((n:Nat):Int):Int)/\(((n:Nat):Int):Int)<=1000 by omega)]at this;exact this
 have HFT:=KO hft
 have hln:=kL ho hem
 have hri:=kD hem
 obtain⟨P,hP⟩:∃P,allM m=P:=⟨_,rfl⟩
 rw[hP]at has hln hri hK ⊢
 clear HAS
 have HAS:=KO has
 have hKl:K<=P.length:=by rw[<-hK];exact kP P cu.key
 have hbe:=fun W A c (h:Sl W A (P.flatMap Pr.cells))=>nL A P c cu.key W h (by omega)
 rw[hK]at hbe
 have hse:=fun W A c (h:Sl W A (P.flatMap Pr.cells))=>ve m A P c ((T:Nat):Int) W h (by omega)
 obtain⟨LW,hLW⟩:∃LW,(P.drop K).take (T-K)=LW:=⟨_,rfl⟩
 rw[hP]at hl hp
 obtain⟨S,hS⟩:∃S,K+n=S:=⟨_,rfl⟩
 have hmin:(if P.length< S then((P.length:Nat):Int)else((S:Nat):Int))=((T:Nat):Int):=by split <;> omega
 have HMIN:=KO hmin
 clear hmin
 have hcu:sW m.ver P ((T:Nat):Int)=⟨m.ver,true,p.key⟩:=by unfold sW;rw[if_pos (by omega),Int.toNat_natCast,hp]
 have hce:zx P ((T:Nat):Int)=0:=by unfold zx;rw[if_pos (by omega)]
 rw[hcu,hce]at hse
 clear hcu hce hp
 have hlw:LW.length=T-K:=by rw[<-hLW,List.length_take,List.length_drop];omega
 have hwr:∀[Inhabited Nat],IntKind.i64.wrap (((K:Nat):Int)+((n:Nat):Int))=((S:Nat):Int):=by intro _;rw[IntWalk.i64_in _ (by omega)];omega
 clear hS
 have hn0:¬((n:Nat):Int)=0:=by omega
 have HLWE:=KO hLW
 rw[hLW]
 obtain⟨ti0,hTI⟩:=info_parts sQ
 have HTI:=KO hTI
 have HBE:=KO hbe
 have HSE:=KO hse
 have HLW:=KO hlw
 have HLE:=KO (show T-K<=16384 by omega)
 have HKT:=KO (show K<=T/\T<=P.length by omega)
 have HKN:=KO (show K< T by omega)
 clear has hof hem hoz hz hs ho hft hbe hse hLW hlw hP hK hri hln hKl hT hTI
 go_enter func8,ntmps8
 go_upto_region 1 with fail
 rw[HW0.out]
 try dsimp only[]
 repeat (first|refine eX HQ0.out 0 underlying42 af rfl rfl rfl rfl ?_|go_values|go_skip|go_guarded|go_step|go_upon)
 refine HAS.out.mono ?_
 rintro e w1 ⟨A,c,rfl,ho1,hb1⟩
 have HB1:=KO (aa HB0.out hb1)
 have HQ01:=KO (HQ0.out.below hb1 HQ0.out.lt)
 have HQ11:=KO (HQ1.out.below hb1 HQ1.out.lt)
 have HQ21:=KO (HQ2.out.below hb1 HQ2.out.lt)
 have HOW:=KO ho1
 clear hb1 ho1 a0 a1 a2
 have a0:w1.cell? ⟨(w.heap.size+1),0,none⟩=some (.int .u64 cu.ver):=HQ11.out.cell 0
 have a1:w1.cell? ⟨(w.heap.size+1),1,none⟩=some (.bool cu.on):=HQ11.out.cell 1
 have a2:w1.cell? ⟨(w.heap.size+1),2,none⟩=some (.int .i64 cu.key):=HQ11.out.cell 2
 go_upto_region 3 with fail
 try dsimp only[]
 repeat (first|refine eX HQ01.out 0 underlying42 af rfl rfl rfl rfl ?_|go_values|go_skip|go_guarded|go_step|go_upon)
 refine(HOF.out _).mono ?_
 rintro e w2 ⟨rfl,hb2⟩
 have HB2:=KO (aa HB1.out hb2)
 have HQ02:=KO (HQ01.out.below hb2 HQ01.out.lt)
 have HQ12:=KO (HQ11.out.below hb2 HQ11.out.lt)
 have HQ22:=KO (HQ21.out.below hb2 HQ21.out.lt)
 have HSM:=KO ((aA HOW.out).below hb2)
 clear hb2 a0 a1 a2
 have a0:w2.cell? ⟨(w.heap.size+1),0,none⟩=some (.int .u64 cu.ver):=HQ12.out.cell 0
 have a1:w2.cell? ⟨(w.heap.size+1),1,none⟩=some (.bool cu.on):=HQ12.out.cell 1
 have a2:w2.cell? ⟨(w.heap.size+1),2,none⟩=some (.int .i64 cu.key):=HQ12.out.cell 2
 go_wp2_with fail
 refine(HFT.out _).mono ?_
 rintro e w3 ⟨rfl,hb3⟩
 have HB3:=KO (aa HB2.out hb3)
 have HQ03:=KO (HQ02.out.below hb3 HQ02.out.lt)
 have HQ13:=KO (HQ12.out.below hb3 HQ12.out.lt)
 have HQ23:=KO (HQ22.out.below hb3 HQ22.out.lt)
 have HSN:=KO (HSM.out.below hb3)
 clear hb3 a0 a1 a2
 have a0:w3.cell? ⟨(w.heap.size+1),0,none⟩=some (.int .u64 cu.ver):=HQ13.out.cell 0
 have a1:w3.cell? ⟨(w.heap.size+1),1,none⟩=some (.bool cu.on):=HQ13.out.cell 1
 have a2:w3.cell? ⟨(w.heap.size+1),2,none⟩=some (.int .i64 cu.key):=HQ13.out.cell 2
 go_upto_region 10 with fail
 go_wp2_with fail
 refine(HBE.out _ _ _ HSN.out).mono ?_
 rintro e w4 ⟨rfl,hb4⟩
 have HB4:=KO (aa HB3.out hb4)
 have HQ04:=KO (HQ03.out.below hb4 HQ03.out.lt)
 have HQ24:=KO (HQ23.out.below hb4 HQ23.out.lt)
 have HSO:=KO (HSN.out.below hb4)
 clear hb4 a0 a1 a2
 go_upto_region 11 with fail
 try dsimp only[]
 repeat (first|refine eX HQ04.out 0 underlying42 af rfl rfl rfl rfl ?_|go_values|go_skip|go_guarded|go_step|go_upon)
 rw[HMIN.out]
 refine(HSE.out _ _ _ HSO.out).mono ?_
 rintro e w5 ⟨rfl,hb5⟩
 have HB5a:=KO (aa HB4.out hb5)
 have HQ05a:=KO (HQ04.out.below hb5 HQ04.out.lt)
 have HQ25a:=KO (HQ24.out.below hb5 HQ24.out.lt)
 have HSP:=KO (HSO.out.below hb5)
 clear hb5 hwr
 go_upto_region 15 with fail
 obtain⟨B5,hB5⟩:∃B5,w5.alloc (.cells #[.int .u64 m.ver,.bool true,.int .i64 p.key] 44)=B5:=⟨_,rfl⟩
 have hb5:Below w5.heap.size w5 B5:=by rw[<-hB5];exact(KR _ _).alloc (KS _) _
 have bn5:Blk B5 w5.heap.size 44 #[.int .u64 m.ver,.bool true,.int .i64 p.key]:=by rw[<-hB5];exact Blk.new _ _ _
 rw[hB5]
 clear hB5
 obtain⟨gn,hgn⟩:∃gn,w5.heap.size=gn:=⟨_,rfl⟩
 rw[hgn]at bn5 ⊢
 have HN5:=KO bn5
 have HB5:=KO (aa HB5a.out hb5)
 have HQ25:=KO (HQ25a.out.below hb5 HQ25a.out.lt)
 have HSQ:=KO (HSP.out.below hb5)
 have HSD0:=KO (show∀W,Below B5.heap.size B5 W->Sl W (rZ A K c) (LW.flatMap Pr.cells)from fun W h=>by
  rw[<-HLWE.out]
  obtain⟨_,_,hv,hlc,_⟩:=ak HOW.out
  cases hv
  exact((HSQ.out.below h).drop K c hlc).take (T-K))
 have HYY:=KO (show(0:Int)<=((K:Nat):Int)/\((K:Nat):Int)<=((T:Nat):Int)/\((T:Nat):Int)<=((c:Nat):Int)by
  obtain⟨_,_,hv,hlc,_⟩:=ak HOW.out
  cases hv
  have:=HKT.out
  omega)
 clear bn5 hb5 hgn
 have hcK:¬c=K:=by
  obtain⟨_,_,hv,hlc,_⟩:=ak HOW.out
  cases hv
  have:=HKT.out
  have:=HKN.out
  omega
 have HSD:=KO (show∀W,Below B5.heap.size B5 W->Sl W (A.map (·.add (K*2))) (LW.flatMap Pr.cells)from fun W h=>by have:=HSD0.out W h;unfold rZ at this;rw[if_neg hcK]at this;exact this)
 have HCK:=KO hcK
 clear hcK HSD0
 refine aH (by kernel_rfl) (by kernel_rfl) (fun L a W=>∃(t61 t62 t63 t64 t65 t66 t67 t6 t8:Value) (A61:Option Addr) (A66:Option Addr) (c66:Nat),a=⟨#[.agg m.row,Value.agg cu.row,.int .i64 ((n:Nat):Int),.pointer (some ⟨w.heap.size,0,none⟩),.pointer (some ⟨w.heap.size+1,0,none⟩),undef,t6,.pointer (some ⟨w.heap.size+1+1,0,none⟩),t8,.slice A P.length c,.int .i64 0,.int .i64 ((K:Nat):Int),.int .i64 ((T:Nat):Int),.pointer (some ⟨gn,0,none⟩),.int .i64 0,Value.tuple #[.slice A P.length c,.int .i64 0],.agg m.row,Value.tuple #[.slice A P.length c,.int .i64 0],.slice A P.length c,.int .i64 0,.int .i64 0,.bool true,.agg m.row,Value.agg #[.int .u64 cu.ver,.bool cu.on,.int .i64 cu.key],.int .i64 0,.int .i64 0,.bool true,.bool true,.int .i64 ((n:Nat):Int),.bool true,.bool false,.bool false,.int .i64 0,.bool false,undef,undef,.int .i64 ((n:Nat):Int),.bool false,undef,.slice A P.length c,.pointer (some ⟨w.heap.size+1,2,none⟩),.int .i64 cu.key,.int .i64 ((K:Nat):Int),.int .i64 ((K:Nat):Int),.int .i64 ((n:Nat):Int),.int .i64 ((S:Nat):Int),.slice A P.length c,.int .i64 ((P.length:Nat):Int),.int .i64 ((T:Nat):Int),Value.tuple #[.agg (⟨m.ver,true,p.key⟩:Cu).row,.int .i64 0],.agg m.row,.slice A P.length c,.int .i64 ((T:Nat):Int),Value.tuple #[.agg (⟨m.ver,true,p.key⟩:Cu).row,.int .i64 0],.agg (⟨m.ver,true,p.key⟩:Cu).row,.int .i64 0,.int .i64 0,.bool false,undef,undef,undef,t61,t62,t63,t64,t65,t66,t67],[]⟩/\(L 8=false->Below B5.heap.size B5 W)/\(L 0=true->t61= .slice A61 0 0)/\(L 1=true->t62= .slice A P.length c)/\(L 2=true->t63= .int .i64 (K:Nat))/\(L 3=true->t64= .int .i64 (T:Nat))/\(L 4=true->t65= .slice (A.map (·.add (K*2))) (T-K) (c-K))/\(L 5=true->t66= .slice A66 LW.length c66/\Held (fun k=>k< B5.heap.size) (fun W=>Sl W A66 (LW.flatMap Pr.cells)) W)/\(L 6=true->t67= .agg #[.int .u64 m.ver,.bool true,.int .i64 p.key])/\(L 7=true->t6= .slice A66 LW.length c66)/\(L 8=true->Mod (fun k=>k=(w.heap.size+2)) B5 W/\Blk W (w.heap.size+2) 44 #[.int .u64 m.ver,.bool true,.int .i64 p.key])/\(L 9=true->t8= .int .i64 0)/\(L 4=true->L 1=true/\L 2=true/\L 3=true)/\(L 5=true->L 0=true/\L 4=true)/\(L 7=true->L 5=true)/\(L 8=true->L 6=true/\L 7=true)/\(L 9=true->L 8=true)) ?h0fm ?hstepfm ?hendfm
 case h0fm=>exact⟨undef,undef,undef,undef,undef,undef,undef,Value.slice none 0 0,LB IntKind.i64 0,none,none,0,rfl,fun _=>(KR _ _).drew,fun h=>absurd h KP,fun h=>absurd h KP,fun h=>absurd h KP,fun h=>absurd h KP,fun h=>absurd h KP,fun h=>absurd h KP,fun h=>absurd h KP,fun h=>absurd h KP,fun h=>absurd h KP,fun h=>absurd h KP,fun h=>absurd h KP,fun h=>absurd h KP,fun h=>absurd h KP,fun h=>absurd h KP,fun h=>absurd h KP⟩
 case hendfm=>
  rintro L a W hall ⟨t61,t62,t63,t64,t65,t66,t67,t6,t8,A61,A66,c66,rfl,hb,f0,f1,f2,f3,f4,f5,f6,f7,f8,f9,c4,c5,c7,c8,c9⟩
  have z0:=f0 (hall 0 (by decide))
  have z1:=f1 (hall 1 (by decide))
  have z2:=f2 (hall 2 (by decide))
  have z3:=f3 (hall 3 (by decide))
  have z4:=f4 (hall 4 (by decide))
  have z5:=f5 (hall 5 (by decide))
  have z6:=f6 (hall 6 (by decide))
  have z7:=f7 (hall 7 (by decide))
  have z8:=f8 (hall 8 (by decide))
  have z9:=f9 (hall 9 (by decide))
  clear hall f0 f1 f2 f3 f4 f5 f6 f7 f8 f9 c4 c5 c7 c8 c9 hb
  have HR3:=KO z8.2
  have HM3:=KO z8.1
  have hsl:=z5.2.now
  clear z0 z1 z2 z3 z4 z5 z6 z8
  obtain rfl:=z7
  obtain rfl:=z9
  have e0:W.cell? ⟨(w.heap.size+2),0,none⟩=some (.int .u64 m.ver):=HR3.out.cell 0
  have e1:W.cell? ⟨(w.heap.size+2),1,none⟩=some (.bool true):=HR3.out.cell 1
  have e2:W.cell? ⟨(w.heap.size+2),2,none⟩=some (.int .i64 p.key):=HR3.out.cell 2
  go_wp2_with fail
  refine KV (v:= .tuple #[.slice A66 LW.length c66,.agg #[.int .u64 m.ver,.bool true,.int .i64 p.key],.int .i64 0]) (by simp[results,results8,go_sem,e0,e1,e2]) rfl ?_
  have hbz:Below w.heap.size w W:=HB5.out.trans (HM3.out.below HB5.out.size (fun b hb=>by have hb:b=(w.heap.size+2):=hb;omega))
  exact⟨A66,c66,rfl,hsl,hbz⟩
 case hstepfm=>
  rintro L a W i o ho hLi hdep ⟨t61,t62,t63,t64,t65,t66,t67,t6,t8,A61,A66,c66,rfl,hb,f0,f1,f2,f3,f4,f5,f6,f7,f8,f9,c4,c5,c7,c8,c9⟩
  have F0:=KO f0
  have F1:=KO f1
  have F2:=KO f2
  have F3:=KO f3
  have F4:=KO f4
  have F5:=KO f5
  have F6:=KO f6
  have F7:=KO f7
  have F8:=KO f8
  have F9:=KO f9
  have C4:=KO c4
  have C5:=KO c5
  have C7:=KO c7
  have C8:=KO c8
  have C9:=KO c9
  have HB0:=KO hb
  clear hb f0 f1 f2 f3 f4 f5 f6 f7 f8 f9 c4 c5 c7 c8 c9
  have HLi:=KO hLi
  clear hLi
  match i,ho with
  |0,ho=>
   obtain rfl:=KQ ho
   clear hdep
   have hlast:L 8=false:=by
    cases h:L 8 with
    |false=>rfl
    |true=>exact absurd ((C5.out (C7.out (C8.out h).2)).1) (by rw[HLi.out];exact KP)
   have HB:=KO (HB0.out hlast)
   refine KT rfl (fun K1 hK1=>?_)
   have hK:=KO hK1
   clear hK1
   go_wp2_with fail
   have hb1:Below W.heap.size W (W.alloc (.cells #[] 55)):=(KR _ _).alloc (KS _) _
   obtain⟨W1,hW1⟩:∃W1,W.alloc (.cells #[] 55)=W1:=⟨_,rfl⟩
   rw[hW1]at hb1
   rw[hW1]
   clear hW1
   refine hK.out _ _ ?_;exact gJ
  |1,ho=>
   obtain rfl:=KQ ho
   clear hdep
   have hlast:L 8=false:=by
    cases h:L 8 with
    |false=>rfl
    |true=>exact absurd ((C4.out (C5.out (C7.out (C8.out h).2)).2).1) (by rw[HLi.out];exact KP)
   have HB:=KO (HB0.out hlast)
   refine KT rfl (fun K1 hK1=>?_)
   have hK:=KO hK1
   clear hK1
   go_wp2_with fail
   refine hK.out _ _ ?_;exact gJ
  |2,ho=>
   obtain rfl:=KQ ho
   clear hdep
   have hlast:L 8=false:=by
    cases h:L 8 with
    |false=>rfl
    |true=>exact absurd ((C4.out (C5.out (C7.out (C8.out h).2)).2).2.1) (by rw[HLi.out];exact KP)
   have HB:=KO (HB0.out hlast)
   refine KT rfl (fun K1 hK1=>?_)
   have hK:=KO hK1
   clear hK1
   go_wp2_with fail
   refine hK.out _ _ ?_;exact gJ
  |3,ho=>
   obtain rfl:=KQ ho
   clear hdep
   have hlast:L 8=false:=by
    cases h:L 8 with
    |false=>rfl
    |true=>exact absurd ((C4.out (C5.out (C7.out (C8.out h).2)).2).2.2) (by rw[HLi.out];exact KP)
   have HB:=KO (HB0.out hlast)
   refine KT rfl (fun K1 hK1=>?_)
   have hK:=KO hK1
   clear hK1
   go_wp2_with fail
   refine hK.out _ _ ?_;exact gJ
  |4,ho=>
   obtain rfl:=KQ ho
   have hl1:=hdep ⟨1,.data⟩ (by simp) rfl
   obtain rfl:=F1.out hl1
   have hl2:=hdep ⟨2,.data⟩ (by simp) rfl
   obtain rfl:=F2.out hl2
   have hl3:=hdep ⟨3,.data⟩ (by simp) rfl
   obtain rfl:=F3.out hl3
   clear hdep
   have hlast:L 8=false:=by
    cases h:L 8 with
    |false=>rfl
    |true=>exact absurd ((C5.out (C7.out (C8.out h).2)).2) (by rw[HLi.out];exact KP)
   have HB:=KO (HB0.out hlast)
   have y0:=HYY.out.1
   have y1:=HYY.out.2.1
   have y2:=HYY.out.2.2
   have y3:=HCK.out
   refine KT rfl (fun K1 hK1=>?_)
   have hK:=KO hK1
   clear hK1
   go_wp2_with fail
   refine hK.out _ _ ?_;exact gJ
  |5,ho=>
   obtain rfl:=KQ ho
   have hl0:=hdep ⟨0,.data⟩ (by simp) rfl
   obtain rfl:=F0.out hl0
   have hl4:=hdep ⟨4,.data⟩ (by simp) rfl
   obtain rfl:=F4.out hl4
   clear hdep
   have hlast:L 8=false:=by
    cases h:L 8 with
    |false=>rfl
    |true=>exact absurd ((C7.out (C8.out h).2)) (by rw[HLi.out];exact KP)
   have HB:=KO (HB0.out hlast)
   refine KT rfl (fun K1 hK1=>?_)
   have hK:=KO hK1
   clear hK1
   refine dF W rfl (.tmp 61) (.tmp 65) 47 rfl 55 ti0 _ 2 16 underlying47 HTI.out.1 HTI.out.2.1 HTI.out.2.2.1 HTI.out.2.2.2 rfl (by omega) A61 0 [] (fun _=>rfl) rfl (.inl rfl) rfl (A.map (·.add (K*2))) (T-K) (c-K) (LW.flatMap Pr.cells) rfl (HSD.out W HB.out) (by rw[dG,HLW.out]) (qM LW) (by have:=HLE.out;unfold maxLen;omega) (by have:=HLE.out;omega) ?_
   intro v4 W1 h41 h42 hg4
   obtain⟨A4,c4,rfl,hh4,hb1⟩:=oW (X:=fun k=>k< B5.heap.size) HLW.out h41 h42 hg4 (fun k hk=>Nat.lt_of_lt_of_le hk HB.out.size)
   clear h41 h42 hg4
   refine hK.out _ _ ?_;exact gJ
  |6,ho=>
   obtain rfl:=KQ ho
   clear hdep
   have hlast:L 8=false:=by
    cases h:L 8 with
    |false=>rfl
    |true=>exact absurd ((C8.out h).1) (by rw[HLi.out];exact KP)
   have HB:=KO (HB0.out hlast)
   have q0:W.cell? ⟨gn,0,none⟩=some (.int .u64 m.ver):=(HN5.out.below HB.out HN5.out.lt).cell 0
   have q1:W.cell? ⟨gn,1,none⟩=some (.bool true):=(HN5.out.below HB.out HN5.out.lt).cell 1
   have q2:W.cell? ⟨gn,2,none⟩=some (.int .i64 p.key):=(HN5.out.below HB.out HN5.out.lt).cell 2
   refine KT rfl (fun K1 hK1=>?_)
   have hK:=KO hK1
   clear hK1
   go_wp2_with fail
   refine hK.out _ _ ?_;exact gJ
  |7,ho=>
   obtain rfl:=KQ ho
   have hl5:=hdep ⟨5,.data⟩ (by simp) rfl
   have zz5:=KO (F5.out hl5).2
   obtain rfl:=(F5.out hl5).1
   clear hdep
   have hlast:L 8=false:=by
    cases h:L 8 with
    |false=>rfl
    |true=>exact absurd ((C8.out h).2) (by rw[HLi.out];exact KP)
   have HB:=KO (HB0.out hlast)
   refine KT rfl (fun K1 hK1=>?_)
   have hK:=KO hK1
   clear hK1
   go_wp2_with fail
   refine hK.out _ _ ?_;exact gJ
  |8,ho=>
   obtain rfl:=KQ ho
   have hl6:=hdep ⟨6,.data⟩ (by simp) rfl
   obtain rfl:=F6.out hl6
   have hl7:=hdep ⟨7,.chain⟩ (by simp) rfl
   obtain rfl:=F7.out hl7
   clear hdep
   have hlast:=HLi.out
   have HB:=KO (HB0.out hlast)
   refine KT rfl (fun K1 hK1=>?_)
   have hK:=KO hK1
   clear hK1
   have hbk:=HQ25.out.below HB.out HQ25.out.lt
   refine aF rfl 44 (.tmp 7) (.tmp 67) rfl (w.heap.size+2) 0 #[.int .u64 m.ver,.bool true,.int .i64 p.key] rfl rfl (aY hbk 0 3 (by simp)) gD (Ld (by simp[K5])) ?_
   refine hK.out _ _ ?_;exact gJ
  |9,ho=>
   obtain rfl:=KQ ho
   have hl8:=hdep ⟨8,.chain⟩ (by simp) rfl
   clear hdep
   refine KT rfl (fun K1 hK1=>?_)
   have hK:=KO hK1
   clear hK1
   go_wp2_with fail
   refine hK.out _ _ ?_;exact gJ
theorem bG {P:Prop} (h:P:=by
  iterate 12 apply Exists.intro
  refine⟨rfl,?_,?_,?_,?_,?_,?_,?_,?_,?_,?_,?_,?_,?_,?_,?_,?_⟩
  ·first|exact HB0.out|exact fun _=>aa HB.out hb1|(intro h;refine absurd h ?_;simp;done;done)
  ·first|exact F0.out|exact fun _=>rfl
  ·first|exact F1.out|exact fun _=>rfl
  ·first|exact F2.out|exact fun _=>rfl
  ·first|exact F3.out|exact fun _=>rfl
  ·first|exact F4.out|exact fun _=>rfl
  ·first|exact(fun h=>⟨(F5.out (by simpa using h)).1,(F5.out (by simpa using h)).2.step (aL (S:=(fun k=>k< B5.heap.size)) HQ25.out.lt _ 0 _)⟩)|exact F5.out|exact fun _=>⟨rfl,hh4⟩|exact fun h=>⟨rfl,zz5.out⟩|exact(fun h=>⟨(F5.out (by simpa using h)).1,(F5.out (by simpa using h)).2.ext hb1⟩)
  ·first|exact F6.out|exact fun _=>rfl
  ·first|exact F7.out|exact fun _=>rfl|exact(fun h=>absurd (show L 7=true by simpa using h) (by intro h;exact absurd ((C7.out h)) (by rw[HLi.out];exact KP)))
  ·first|exact F8.out|exact(fun h=>absurd (show L 8=true by simpa using h) (by rw[hlast];exact KP))|exact(fun _=>⟨(Mod.of_ext HB.out).trans (aL (S:=fun k=>k=(w.heap.size+2)) rfl _ 0 _),by simpa[dn]using Blk.setCells (#[.int .u64 m.ver,.bool false,.int .i64 0]:Array Value).toList 0 _ _ hbk⟩)
  ·first|exact F9.out|exact fun _=>rfl
  ·first|(intro h;have hh:=C4.out (by simpa using h);simp[hh];done)|(intro _;simp[hl1,hl2,hl3];done)
  ·first|(intro h;have hh:=C5.out (by simpa using h);simp[hh];done)|(intro _;simp[hl0,hl4];done)
  ·first|(intro h;have hh:=C7.out (by simpa using h);simp[hh];done)|(intro _;simp[hl5];done)
  ·first|(intro h;have hh:=C8.out (by simpa using h);simp[hh];done)|(intro _;simp[hl6,hl7];done)
  ·first|(intro h;have hh:=C9.out (by simpa using h);simp[hh];done)|(intro _;simp[hl8];done)):P:=h
theorem zT (m:Mv) (cu:Cu) (most:Int) (n K T:Nat) (w:World) (hs:MvAt w m) (ho:MvOk m) (hz:dA m cu=0) (hm:most=((n:Nat):Int)) (hn:0< n/\n<=1000) (hK:bel (allM m) cu.key=K) (hT:T=(allM m).length) (hl:(allM m).length<=K+n):
  Calls prog 8 #[.agg m.row,.agg cu.row,.int .i64 most] w (jZ (((allM m).drop K).take (T-K)) ⟨m.ver,false,0⟩ 0 w):=by
 obtain⟨W0,hW0⟩:∃W,(((w.alloc (.cells m.row 42)).alloc (.cells #[.int .u64 cu.ver,.bool cu.on,.int .i64 cu.key] 44)).alloc (.cells #[.int .u64 0,.bool false,.int .i64 0] 44))=W:=⟨_,rfl⟩
 have hb0:Below w.heap.size w W0:=by rw[<-hW0];exact((((KR _ _).alloc (by first|exact KS _|(simp;done)|(simp;omega)) _).alloc (by first|exact KS _|(simp;done)|(simp;omega)) _).alloc (by first|exact KS _|(simp;done)|(simp;omega)) _)
 have bq0:Blk W0 w.heap.size 42 m.row:=by rw[<-hW0];exact(((Blk.new _ _ _).alloc _).alloc _)
 have HQ0:=KO bq0
 have bq1:Blk W0 (w.heap.size+1) 44 #[.int .u64 cu.ver,.bool cu.on,.int .i64 cu.key]:=by rw[<-hW0];exact((aj (by simp)).alloc _)
 have HQ1:=KO bq1
 have bq2:Blk W0 (w.heap.size+2) 44 #[.int .u64 0,.bool false,.int .i64 0]:=by rw[<-hW0];exact(aj (by simp))
 have HQ2:=KO bq2
 have HW0:=KO hW0
 have HB0:=KO hb0
 clear hW0 hb0 bq0 bq1 bq2
 have hem:aV m=0:=by
  rw[fQ]at hz
  by_cases h:aV m=0
  ·exact h
  ·rw[if_neg h]at hz;exact absurd hz h
 have hoz:Fu m cu=0:=by rw[fQ,if_pos hem]at hz;exact hz
 have has:=gM m W0 (hs.below HB0.out) ho
 have hof:=fun W=>kW m cu W
 rw[hem,if_pos rfl]at has
 rw[hoz]at hof
 have HOF:=KO hof
 have HAS:=KO has
 have a0:W0.cell? ⟨(w.heap.size+1),0,none⟩=some (.int .u64 cu.ver):=HQ1.out.cell 0
 have a1:W0.cell? ⟨(w.heap.size+1),1,none⟩=some (.bool cu.on):=HQ1.out.cell 1
 have a2:W0.cell? ⟨(w.heap.size+1),2,none⟩=some (.int .i64 cu.key):=HQ1.out.cell 2
 subst hm
 have hft:∀W,Calls prog 34 #[.int .i64 ((n:Nat):Int)] W (fun r w'=>r= .returned (.bool true)/\Below W.heap.size W w'):=fun W=>by have:=ku ((n:Nat):Int) W;rw[decide_eq_true (show 0<=(((n:Nat):Int):Int)/\(((n:Nat):Int):Int)<=1000 by omega)]at this;exact this
 have HFT:=KO hft
 have hln:=kL ho hem
 have hri:=kD hem
 obtain⟨P,hP⟩:∃P,allM m=P:=⟨_,rfl⟩
 rw[hP]at has hln hri hK ⊢
 clear HAS
 have HAS:=KO has
 have hKl:K<=P.length:=by rw[<-hK];exact kP P cu.key
 have hbe:=fun W A c (h:Sl W A (P.flatMap Pr.cells))=>nL A P c cu.key W h (by omega)
 rw[hK]at hbe
 have hse:=fun W A c (h:Sl W A (P.flatMap Pr.cells))=>ve m A P c ((T:Nat):Int) W h (by omega)
 obtain⟨LW,hLW⟩:∃LW,(P.drop K).take (T-K)=LW:=⟨_,rfl⟩
 rw[hP]at hl hT
 obtain⟨S,hS⟩:∃S,K+n=S:=⟨_,rfl⟩
 have hmin:(if P.length< S then((P.length:Nat):Int)else((S:Nat):Int))=((T:Nat):Int):=by split <;> omega
 have HMIN:=KO hmin
 clear hmin
 have hcu:sW m.ver P ((T:Nat):Int)=tQ:=by unfold sW;rw[if_neg (by omega)]
 have hce:zx P ((T:Nat):Int)=6:=by unfold zx;rw[if_neg (by omega)]
 rw[hcu,hce]at hse
 clear hcu hce
 have hlw:LW.length=T-K:=by rw[<-hLW,List.length_take,List.length_drop];omega
 have hwr:∀[Inhabited Nat],IntKind.i64.wrap (((K:Nat):Int)+((n:Nat):Int))=((S:Nat):Int):=by intro _;rw[IntWalk.i64_in _ (by omega)];omega
 clear hS
 have hn0:¬((n:Nat):Int)=0:=by omega
 have HLWE:=KO hLW
 rw[hLW]
 obtain⟨ti0,hTI⟩:=info_parts sQ
 have HTI:=KO hTI
 have HBE:=KO hbe
 have HSE:=KO hse
 have HLW:=KO hlw
 have HLE:=KO (show T-K<=16384 by omega)
 have HKT:=KO (show K<=T/\T<=P.length by omega)
 clear has hof hem hoz hz hs ho hft hbe hse hLW hlw hP hK hri hln hKl hT hTI
 go_enter func8,ntmps8
 go_upto_region 1 with fail
 rw[HW0.out]
 try dsimp only[]
 repeat (first|refine eX HQ0.out 0 underlying42 af rfl rfl rfl rfl ?_|go_values|go_skip|go_guarded|go_step|go_upon)
 refine HAS.out.mono ?_
 rintro e w1 ⟨A,c,rfl,ho1,hb1⟩
 have HB1:=KO (aa HB0.out hb1)
 have HQ01:=KO (HQ0.out.below hb1 HQ0.out.lt)
 have HQ11:=KO (HQ1.out.below hb1 HQ1.out.lt)
 have HQ21:=KO (HQ2.out.below hb1 HQ2.out.lt)
 have HOW:=KO ho1
 clear hb1 ho1 a0 a1 a2
 have a0:w1.cell? ⟨(w.heap.size+1),0,none⟩=some (.int .u64 cu.ver):=HQ11.out.cell 0
 have a1:w1.cell? ⟨(w.heap.size+1),1,none⟩=some (.bool cu.on):=HQ11.out.cell 1
 have a2:w1.cell? ⟨(w.heap.size+1),2,none⟩=some (.int .i64 cu.key):=HQ11.out.cell 2
 go_upto_region 3 with fail
 try dsimp only[]
 repeat (first|refine eX HQ01.out 0 underlying42 af rfl rfl rfl rfl ?_|go_values|go_skip|go_guarded|go_step|go_upon)
 refine(HOF.out _).mono ?_
 rintro e w2 ⟨rfl,hb2⟩
 have HB2:=KO (aa HB1.out hb2)
 have HQ02:=KO (HQ01.out.below hb2 HQ01.out.lt)
 have HQ12:=KO (HQ11.out.below hb2 HQ11.out.lt)
 have HQ22:=KO (HQ21.out.below hb2 HQ21.out.lt)
 have HSM:=KO ((aA HOW.out).below hb2)
 clear hb2 a0 a1 a2
 have a0:w2.cell? ⟨(w.heap.size+1),0,none⟩=some (.int .u64 cu.ver):=HQ12.out.cell 0
 have a1:w2.cell? ⟨(w.heap.size+1),1,none⟩=some (.bool cu.on):=HQ12.out.cell 1
 have a2:w2.cell? ⟨(w.heap.size+1),2,none⟩=some (.int .i64 cu.key):=HQ12.out.cell 2
 go_wp2_with fail
 refine(HFT.out _).mono ?_
 rintro e w3 ⟨rfl,hb3⟩
 have HB3:=KO (aa HB2.out hb3)
 have HQ03:=KO (HQ02.out.below hb3 HQ02.out.lt)
 have HQ13:=KO (HQ12.out.below hb3 HQ12.out.lt)
 have HQ23:=KO (HQ22.out.below hb3 HQ22.out.lt)
 have HSN:=KO (HSM.out.below hb3)
 clear hb3 a0 a1 a2
 have a0:w3.cell? ⟨(w.heap.size+1),0,none⟩=some (.int .u64 cu.ver):=HQ13.out.cell 0
 have a1:w3.cell? ⟨(w.heap.size+1),1,none⟩=some (.bool cu.on):=HQ13.out.cell 1
 have a2:w3.cell? ⟨(w.heap.size+1),2,none⟩=some (.int .i64 cu.key):=HQ13.out.cell 2
 go_upto_region 10 with fail
 go_wp2_with fail
 refine(HBE.out _ _ _ HSN.out).mono ?_
 rintro e w4 ⟨rfl,hb4⟩
 have HB4:=KO (aa HB3.out hb4)
 have HQ04:=KO (HQ03.out.below hb4 HQ03.out.lt)
 have HQ24:=KO (HQ23.out.below hb4 HQ23.out.lt)
 have HSO:=KO (HSN.out.below hb4)
 clear hb4 a0 a1 a2
 go_upto_region 11 with fail
 try dsimp only[]
 repeat (first|refine eX HQ04.out 0 underlying42 af rfl rfl rfl rfl ?_|go_values|go_skip|go_guarded|go_step|go_upon)
 rw[HMIN.out]
 refine(HSE.out _ _ _ HSO.out).mono ?_
 rintro e w5 ⟨rfl,hb5⟩
 have HB5a:=KO (aa HB4.out hb5)
 have HQ05a:=KO (HQ04.out.below hb5 HQ04.out.lt)
 have HQ25a:=KO (HQ24.out.below hb5 HQ24.out.lt)
 have HSP:=KO (HSO.out.below hb5)
 clear hb5 hwr
 have cv:w5.cell? ⟨w.heap.size,1,none⟩=some (.int .u64 m.ver):=HQ05a.out.cell 1
 have lv5:w.heap.size< w5.heap.size:=HQ05a.out.lt
 go_upto_region 15 with fail
 clear cv lv5
 obtain⟨B5,hB5⟩:∃B5,w5.alloc (.cells #[.int .u64 m.ver,.bool false,.int .i64 0] 44)=B5:=⟨_,rfl⟩
 have hb5:Below w5.heap.size w5 B5:=by rw[<-hB5];exact(KR _ _).alloc (KS _) _
 have bn5:Blk B5 w5.heap.size 44 #[.int .u64 m.ver,.bool false,.int .i64 0]:=by rw[<-hB5];exact Blk.new _ _ _
 rw[hB5]
 clear hB5
 obtain⟨gn,hgn⟩:∃gn,w5.heap.size=gn:=⟨_,rfl⟩
 rw[hgn]at bn5 ⊢
 have HN5:=KO bn5
 have HB5:=KO (aa HB5a.out hb5)
 have HQ25:=KO (HQ25a.out.below hb5 HQ25a.out.lt)
 have HSQ:=KO (HSP.out.below hb5)
 have HSD0:=KO (show∀W,Below B5.heap.size B5 W->Sl W (rZ A K c) (LW.flatMap Pr.cells)from fun W h=>by
  rw[<-HLWE.out]
  obtain⟨_,_,hv,hlc,_⟩:=ak HOW.out
  cases hv
  exact((HSQ.out.below h).drop K c hlc).take (T-K))
 have HYY:=KO (show(0:Int)<=((K:Nat):Int)/\((K:Nat):Int)<=((T:Nat):Int)/\((T:Nat):Int)<=((c:Nat):Int)by
  obtain⟨_,_,hv,hlc,_⟩:=ak HOW.out
  cases hv
  have:=HKT.out
  omega)
 clear bn5 hb5 hgn
 by_cases hcK:c=K
 case pos=>
  have HSD:=KO (show∀W,Below B5.heap.size B5 W->Sl W A (LW.flatMap Pr.cells)from fun W h=>by have:=HSD0.out W h;unfold rZ at this;rw[if_pos hcK]at this;exact this)
  clear HSD0
  have hcK2:=hcK.symm
  subst hcK2
  clear hcK
  refine aH (by kernel_rfl) (by kernel_rfl) (fun L a W=>∃(t61 t62 t63 t64 t65 t66 t67 t6 t8:Value) (A61:Option Addr) (A66:Option Addr) (c66:Nat),a=⟨#[.agg m.row,Value.agg cu.row,.int .i64 ((n:Nat):Int),.pointer (some ⟨w.heap.size,0,none⟩),.pointer (some ⟨w.heap.size+1,0,none⟩),undef,t6,.pointer (some ⟨w.heap.size+1+1,0,none⟩),t8,.slice A P.length K,.int .i64 0,.int .i64 ((K:Nat):Int),.int .i64 ((T:Nat):Int),.pointer (some ⟨gn,0,none⟩),.int .i64 6,Value.tuple #[.slice A P.length K,.int .i64 0],.agg m.row,Value.tuple #[.slice A P.length K,.int .i64 0],.slice A P.length K,.int .i64 0,.int .i64 0,.bool true,.agg m.row,Value.agg #[.int .u64 cu.ver,.bool cu.on,.int .i64 cu.key],.int .i64 0,.int .i64 0,.bool true,.bool true,.int .i64 ((n:Nat):Int),.bool true,.bool false,.bool false,.int .i64 0,.bool false,undef,undef,.int .i64 ((n:Nat):Int),.bool false,undef,.slice A P.length K,.pointer (some ⟨w.heap.size+1,2,none⟩),.int .i64 cu.key,.int .i64 ((K:Nat):Int),.int .i64 ((K:Nat):Int),.int .i64 ((n:Nat):Int),.int .i64 ((S:Nat):Int),.slice A P.length K,.int .i64 ((P.length:Nat):Int),.int .i64 ((T:Nat):Int),Value.tuple #[Value.agg tQ.row,.int .i64 6],.agg m.row,.slice A P.length K,.int .i64 ((T:Nat):Int),Value.tuple #[Value.agg tQ.row,.int .i64 6],Value.agg tQ.row,.int .i64 6,.int .i64 6,.bool true,.pointer (some ⟨w.heap.size,1,none⟩),.int .u64 m.ver,Value.agg #[.int .u64 m.ver,.bool false,.int .i64 0],t61,t62,t63,t64,t65,t66,t67],[]⟩/\(L 8=false->Below B5.heap.size B5 W)/\(L 0=true->t61= .slice A61 0 0)/\(L 1=true->t62= .slice A P.length K)/\(L 2=true->t63= .int .i64 (K:Nat))/\(L 3=true->t64= .int .i64 (T:Nat))/\(L 4=true->t65= .slice A (T-K) 0)/\(L 5=true->t66= .slice A66 LW.length c66/\Held (fun k=>k< B5.heap.size) (fun W=>Sl W A66 (LW.flatMap Pr.cells)) W)/\(L 6=true->t67= .agg #[.int .u64 m.ver,.bool false,.int .i64 0])/\(L 7=true->t6= .slice A66 LW.length c66)/\(L 8=true->Mod (fun k=>k=(w.heap.size+2)) B5 W/\Blk W (w.heap.size+2) 44 #[.int .u64 m.ver,.bool false,.int .i64 0])/\(L 9=true->t8= .int .i64 0)/\(L 4=true->L 1=true/\L 2=true/\L 3=true)/\(L 5=true->L 0=true/\L 4=true)/\(L 7=true->L 5=true)/\(L 8=true->L 6=true/\L 7=true)/\(L 9=true->L 8=true)) ?h0fe ?hstepfe ?hendfe
  case h0fe=>exact⟨undef,undef,undef,undef,undef,undef,undef,Value.slice none 0 0,LB IntKind.i64 0,none,none,0,rfl,fun _=>(KR _ _).drew,fun h=>absurd h KP,fun h=>absurd h KP,fun h=>absurd h KP,fun h=>absurd h KP,fun h=>absurd h KP,fun h=>absurd h KP,fun h=>absurd h KP,fun h=>absurd h KP,fun h=>absurd h KP,fun h=>absurd h KP,fun h=>absurd h KP,fun h=>absurd h KP,fun h=>absurd h KP,fun h=>absurd h KP,fun h=>absurd h KP⟩
  case hendfe=>
   rintro L a W hall ⟨t61,t62,t63,t64,t65,t66,t67,t6,t8,A61,A66,c66,rfl,hb,f0,f1,f2,f3,f4,f5,f6,f7,f8,f9,c4,c5,c7,c8,c9⟩
   have z0:=f0 (hall 0 (by decide))
   have z1:=f1 (hall 1 (by decide))
   have z2:=f2 (hall 2 (by decide))
   have z3:=f3 (hall 3 (by decide))
   have z4:=f4 (hall 4 (by decide))
   have z5:=f5 (hall 5 (by decide))
   have z6:=f6 (hall 6 (by decide))
   have z7:=f7 (hall 7 (by decide))
   have z8:=f8 (hall 8 (by decide))
   have z9:=f9 (hall 9 (by decide))
   clear hall f0 f1 f2 f3 f4 f5 f6 f7 f8 f9 c4 c5 c7 c8 c9 hb
   have HR3:=KO z8.2
   have HM3:=KO z8.1
   have hsl:=z5.2.now
   clear z0 z1 z2 z3 z4 z5 z6 z8
   obtain rfl:=z7
   obtain rfl:=z9
   have e0:W.cell? ⟨(w.heap.size+2),0,none⟩=some (.int .u64 m.ver):=HR3.out.cell 0
   have e1:W.cell? ⟨(w.heap.size+2),1,none⟩=some (.bool false):=HR3.out.cell 1
   have e2:W.cell? ⟨(w.heap.size+2),2,none⟩=some (.int .i64 0):=HR3.out.cell 2
   go_wp2_with fail
   refine KV (v:= .tuple #[.slice A66 LW.length c66,.agg #[.int .u64 m.ver,.bool false,.int .i64 0],.int .i64 0]) (by simp[results,results8,go_sem,e0,e1,e2]) rfl ?_
   have hbz:Below w.heap.size w W:=HB5.out.trans (HM3.out.below HB5.out.size (fun b hb=>by have hb:b=(w.heap.size+2):=hb;omega))
   exact⟨A66,c66,rfl,hsl,hbz⟩
  case hstepfe=>
   rintro L a W i o ho hLi hdep ⟨t61,t62,t63,t64,t65,t66,t67,t6,t8,A61,A66,c66,rfl,hb,f0,f1,f2,f3,f4,f5,f6,f7,f8,f9,c4,c5,c7,c8,c9⟩
   have F0:=KO f0
   have F1:=KO f1
   have F2:=KO f2
   have F3:=KO f3
   have F4:=KO f4
   have F5:=KO f5
   have F6:=KO f6
   have F7:=KO f7
   have F8:=KO f8
   have F9:=KO f9
   have C4:=KO c4
   have C5:=KO c5
   have C7:=KO c7
   have C8:=KO c8
   have C9:=KO c9
   have HB0:=KO hb
   clear hb f0 f1 f2 f3 f4 f5 f6 f7 f8 f9 c4 c5 c7 c8 c9
   have HLi:=KO hLi
   clear hLi
   match i,ho with
   |0,ho=>
    obtain rfl:=KQ ho
    clear hdep
    have hlast:L 8=false:=by
     cases h:L 8 with
     |false=>rfl
     |true=>exact absurd ((C5.out (C7.out (C8.out h).2)).1) (by rw[HLi.out];exact KP)
    have HB:=KO (HB0.out hlast)
    refine KT rfl (fun K1 hK1=>?_)
    have hK:=KO hK1
    clear hK1
    go_wp2_with fail
    have hb1:Below W.heap.size W (W.alloc (.cells #[] 55)):=(KR _ _).alloc (KS _) _
    obtain⟨W1,hW1⟩:∃W1,W.alloc (.cells #[] 55)=W1:=⟨_,rfl⟩
    rw[hW1]at hb1
    rw[hW1]
    clear hW1
    refine hK.out _ _ ?_;exact bG
   |1,ho=>
    obtain rfl:=KQ ho
    clear hdep
    have hlast:L 8=false:=by
     cases h:L 8 with
     |false=>rfl
     |true=>exact absurd ((C4.out (C5.out (C7.out (C8.out h).2)).2).1) (by rw[HLi.out];exact KP)
    have HB:=KO (HB0.out hlast)
    refine KT rfl (fun K1 hK1=>?_)
    have hK:=KO hK1
    clear hK1
    go_wp2_with fail
    refine hK.out _ _ ?_;exact bG
   |2,ho=>
    obtain rfl:=KQ ho
    clear hdep
    have hlast:L 8=false:=by
     cases h:L 8 with
     |false=>rfl
     |true=>exact absurd ((C4.out (C5.out (C7.out (C8.out h).2)).2).2.1) (by rw[HLi.out];exact KP)
    have HB:=KO (HB0.out hlast)
    refine KT rfl (fun K1 hK1=>?_)
    have hK:=KO hK1
    clear hK1
    go_wp2_with fail
    refine hK.out _ _ ?_;exact bG
   |3,ho=>
    obtain rfl:=KQ ho
    clear hdep
    have hlast:L 8=false:=by
     cases h:L 8 with
     |false=>rfl
     |true=>exact absurd ((C4.out (C5.out (C7.out (C8.out h).2)).2).2.2) (by rw[HLi.out];exact KP)
    have HB:=KO (HB0.out hlast)
    refine KT rfl (fun K1 hK1=>?_)
    have hK:=KO hK1
    clear hK1
    go_wp2_with fail
    refine hK.out _ _ ?_;exact bG
   |4,ho=>
    obtain rfl:=KQ ho
    have hl1:=hdep ⟨1,.data⟩ (by simp) rfl
    obtain rfl:=F1.out hl1
    have hl2:=hdep ⟨2,.data⟩ (by simp) rfl
    obtain rfl:=F2.out hl2
    have hl3:=hdep ⟨3,.data⟩ (by simp) rfl
    obtain rfl:=F3.out hl3
    clear hdep
    have hlast:L 8=false:=by
     cases h:L 8 with
     |false=>rfl
     |true=>exact absurd ((C5.out (C7.out (C8.out h).2)).2) (by rw[HLi.out];exact KP)
    have HB:=KO (HB0.out hlast)
    have y0:=HYY.out.1
    have y1:=HYY.out.2.1
    have y2:=HYY.out.2.2
    refine KT rfl (fun K1 hK1=>?_)
    have hK:=KO hK1
    clear hK1
    go_wp2_with fail
    refine hK.out _ _ ?_;exact bG
   |5,ho=>
    obtain rfl:=KQ ho
    have hl0:=hdep ⟨0,.data⟩ (by simp) rfl
    obtain rfl:=F0.out hl0
    have hl4:=hdep ⟨4,.data⟩ (by simp) rfl
    obtain rfl:=F4.out hl4
    clear hdep
    have hlast:L 8=false:=by
     cases h:L 8 with
     |false=>rfl
     |true=>exact absurd ((C7.out (C8.out h).2)) (by rw[HLi.out];exact KP)
    have HB:=KO (HB0.out hlast)
    refine KT rfl (fun K1 hK1=>?_)
    have hK:=KO hK1
    clear hK1
    refine dF W rfl (.tmp 61) (.tmp 65) 47 rfl 55 ti0 _ 2 16 underlying47 HTI.out.1 HTI.out.2.1 HTI.out.2.2.1 HTI.out.2.2.2 rfl (by omega) A61 0 [] (fun _=>rfl) rfl (.inl rfl) rfl A (T-K) 0 (LW.flatMap Pr.cells) rfl (HSD.out W HB.out) (by rw[dG,HLW.out]) (qM LW) (by have:=HLE.out;unfold maxLen;omega) (by have:=HLE.out;omega) ?_
    intro v4 W1 h41 h42 hg4
    obtain⟨A4,c4,rfl,hh4,hb1⟩:=oW (X:=fun k=>k< B5.heap.size) HLW.out h41 h42 hg4 (fun k hk=>Nat.lt_of_lt_of_le hk HB.out.size)
    clear h41 h42 hg4
    refine hK.out _ _ ?_;exact bG
   |6,ho=>
    obtain rfl:=KQ ho
    clear hdep
    have hlast:L 8=false:=by
     cases h:L 8 with
     |false=>rfl
     |true=>exact absurd ((C8.out h).1) (by rw[HLi.out];exact KP)
    have HB:=KO (HB0.out hlast)
    have q0:W.cell? ⟨gn,0,none⟩=some (.int .u64 m.ver):=(HN5.out.below HB.out HN5.out.lt).cell 0
    have q1:W.cell? ⟨gn,1,none⟩=some (.bool false):=(HN5.out.below HB.out HN5.out.lt).cell 1
    have q2:W.cell? ⟨gn,2,none⟩=some (.int .i64 0):=(HN5.out.below HB.out HN5.out.lt).cell 2
    refine KT rfl (fun K1 hK1=>?_)
    have hK:=KO hK1
    clear hK1
    go_wp2_with fail
    refine hK.out _ _ ?_;exact bG
   |7,ho=>
    obtain rfl:=KQ ho
    have hl5:=hdep ⟨5,.data⟩ (by simp) rfl
    have zz5:=KO (F5.out hl5).2
    obtain rfl:=(F5.out hl5).1
    clear hdep
    have hlast:L 8=false:=by
     cases h:L 8 with
     |false=>rfl
     |true=>exact absurd ((C8.out h).2) (by rw[HLi.out];exact KP)
    have HB:=KO (HB0.out hlast)
    refine KT rfl (fun K1 hK1=>?_)
    have hK:=KO hK1
    clear hK1
    go_wp2_with fail
    refine hK.out _ _ ?_;exact bG
   |8,ho=>
    obtain rfl:=KQ ho
    have hl6:=hdep ⟨6,.data⟩ (by simp) rfl
    obtain rfl:=F6.out hl6
    have hl7:=hdep ⟨7,.chain⟩ (by simp) rfl
    obtain rfl:=F7.out hl7
    clear hdep
    have hlast:=HLi.out
    have HB:=KO (HB0.out hlast)
    refine KT rfl (fun K1 hK1=>?_)
    have hK:=KO hK1
    clear hK1
    have hbk:=HQ25.out.below HB.out HQ25.out.lt
    refine aF rfl 44 (.tmp 7) (.tmp 67) rfl (w.heap.size+2) 0 #[.int .u64 m.ver,.bool false,.int .i64 0] rfl rfl (aY hbk 0 3 (by simp)) gD (Ld (by simp[K5])) ?_
    refine hK.out _ _ ?_;exact bG
   |9,ho=>
    obtain rfl:=KQ ho
    have hl8:=hdep ⟨8,.chain⟩ (by simp) rfl
    clear hdep
    refine KT rfl (fun K1 hK1=>?_)
    have hK:=KO hK1
    clear hK1
    go_wp2_with fail
    refine hK.out _ _ ?_;exact bG
 case neg=>
  have HSD:=KO (show∀W,Below B5.heap.size B5 W->Sl W (A.map (·.add (K*2))) (LW.flatMap Pr.cells)from fun W h=>by have:=HSD0.out W h;unfold rZ at this;rw[if_neg hcK]at this;exact this)
  have HCK:=KO hcK
  clear hcK HSD0
  refine aH (by kernel_rfl) (by kernel_rfl) (fun L a W=>∃(t61 t62 t63 t64 t65 t66 t67 t6 t8:Value) (A61:Option Addr) (A66:Option Addr) (c66:Nat),a=⟨#[.agg m.row,Value.agg cu.row,.int .i64 ((n:Nat):Int),.pointer (some ⟨w.heap.size,0,none⟩),.pointer (some ⟨w.heap.size+1,0,none⟩),undef,t6,.pointer (some ⟨w.heap.size+1+1,0,none⟩),t8,.slice A P.length c,.int .i64 0,.int .i64 ((K:Nat):Int),.int .i64 ((T:Nat):Int),.pointer (some ⟨gn,0,none⟩),.int .i64 6,Value.tuple #[.slice A P.length c,.int .i64 0],.agg m.row,Value.tuple #[.slice A P.length c,.int .i64 0],.slice A P.length c,.int .i64 0,.int .i64 0,.bool true,.agg m.row,Value.agg #[.int .u64 cu.ver,.bool cu.on,.int .i64 cu.key],.int .i64 0,.int .i64 0,.bool true,.bool true,.int .i64 ((n:Nat):Int),.bool true,.bool false,.bool false,.int .i64 0,.bool false,undef,undef,.int .i64 ((n:Nat):Int),.bool false,undef,.slice A P.length c,.pointer (some ⟨w.heap.size+1,2,none⟩),.int .i64 cu.key,.int .i64 ((K:Nat):Int),.int .i64 ((K:Nat):Int),.int .i64 ((n:Nat):Int),.int .i64 ((S:Nat):Int),.slice A P.length c,.int .i64 ((P.length:Nat):Int),.int .i64 ((T:Nat):Int),Value.tuple #[Value.agg tQ.row,.int .i64 6],.agg m.row,.slice A P.length c,.int .i64 ((T:Nat):Int),Value.tuple #[Value.agg tQ.row,.int .i64 6],Value.agg tQ.row,.int .i64 6,.int .i64 6,.bool true,.pointer (some ⟨w.heap.size,1,none⟩),.int .u64 m.ver,Value.agg #[.int .u64 m.ver,.bool false,.int .i64 0],t61,t62,t63,t64,t65,t66,t67],[]⟩/\(L 8=false->Below B5.heap.size B5 W)/\(L 0=true->t61= .slice A61 0 0)/\(L 1=true->t62= .slice A P.length c)/\(L 2=true->t63= .int .i64 (K:Nat))/\(L 3=true->t64= .int .i64 (T:Nat))/\(L 4=true->t65= .slice (A.map (·.add (K*2))) (T-K) (c-K))/\(L 5=true->t66= .slice A66 LW.length c66/\Held (fun k=>k< B5.heap.size) (fun W=>Sl W A66 (LW.flatMap Pr.cells)) W)/\(L 6=true->t67= .agg #[.int .u64 m.ver,.bool false,.int .i64 0])/\(L 7=true->t6= .slice A66 LW.length c66)/\(L 8=true->Mod (fun k=>k=(w.heap.size+2)) B5 W/\Blk W (w.heap.size+2) 44 #[.int .u64 m.ver,.bool false,.int .i64 0])/\(L 9=true->t8= .int .i64 0)/\(L 4=true->L 1=true/\L 2=true/\L 3=true)/\(L 5=true->L 0=true/\L 4=true)/\(L 7=true->L 5=true)/\(L 8=true->L 6=true/\L 7=true)/\(L 9=true->L 8=true)) ?h0fm ?hstepfm ?hendfm
  case h0fm=>exact⟨undef,undef,undef,undef,undef,undef,undef,Value.slice none 0 0,LB IntKind.i64 0,none,none,0,rfl,fun _=>(KR _ _).drew,fun h=>absurd h KP,fun h=>absurd h KP,fun h=>absurd h KP,fun h=>absurd h KP,fun h=>absurd h KP,fun h=>absurd h KP,fun h=>absurd h KP,fun h=>absurd h KP,fun h=>absurd h KP,fun h=>absurd h KP,fun h=>absurd h KP,fun h=>absurd h KP,fun h=>absurd h KP,fun h=>absurd h KP,fun h=>absurd h KP⟩
  case hendfm=>
   rintro L a W hall ⟨t61,t62,t63,t64,t65,t66,t67,t6,t8,A61,A66,c66,rfl,hb,f0,f1,f2,f3,f4,f5,f6,f7,f8,f9,c4,c5,c7,c8,c9⟩
   have z0:=f0 (hall 0 (by decide))
   have z1:=f1 (hall 1 (by decide))
   have z2:=f2 (hall 2 (by decide))
   have z3:=f3 (hall 3 (by decide))
   have z4:=f4 (hall 4 (by decide))
   have z5:=f5 (hall 5 (by decide))
   have z6:=f6 (hall 6 (by decide))
   have z7:=f7 (hall 7 (by decide))
   have z8:=f8 (hall 8 (by decide))
   have z9:=f9 (hall 9 (by decide))
   clear hall f0 f1 f2 f3 f4 f5 f6 f7 f8 f9 c4 c5 c7 c8 c9 hb
   have HR3:=KO z8.2
   have HM3:=KO z8.1
   have hsl:=z5.2.now
   clear z0 z1 z2 z3 z4 z5 z6 z8
   obtain rfl:=z7
   obtain rfl:=z9
   have e0:W.cell? ⟨(w.heap.size+2),0,none⟩=some (.int .u64 m.ver):=HR3.out.cell 0
   have e1:W.cell? ⟨(w.heap.size+2),1,none⟩=some (.bool false):=HR3.out.cell 1
   have e2:W.cell? ⟨(w.heap.size+2),2,none⟩=some (.int .i64 0):=HR3.out.cell 2
   go_wp2_with fail
   refine KV (v:= .tuple #[.slice A66 LW.length c66,.agg #[.int .u64 m.ver,.bool false,.int .i64 0],.int .i64 0]) (by simp[results,results8,go_sem,e0,e1,e2]) rfl ?_
   have hbz:Below w.heap.size w W:=HB5.out.trans (HM3.out.below HB5.out.size (fun b hb=>by have hb:b=(w.heap.size+2):=hb;omega))
   exact⟨A66,c66,rfl,hsl,hbz⟩
  case hstepfm=>
   rintro L a W i o ho hLi hdep ⟨t61,t62,t63,t64,t65,t66,t67,t6,t8,A61,A66,c66,rfl,hb,f0,f1,f2,f3,f4,f5,f6,f7,f8,f9,c4,c5,c7,c8,c9⟩
   have F0:=KO f0
   have F1:=KO f1
   have F2:=KO f2
   have F3:=KO f3
   have F4:=KO f4
   have F5:=KO f5
   have F6:=KO f6
   have F7:=KO f7
   have F8:=KO f8
   have F9:=KO f9
   have C4:=KO c4
   have C5:=KO c5
   have C7:=KO c7
   have C8:=KO c8
   have C9:=KO c9
   have HB0:=KO hb
   clear hb f0 f1 f2 f3 f4 f5 f6 f7 f8 f9 c4 c5 c7 c8 c9
   have HLi:=KO hLi
   clear hLi
   match i,ho with
   |0,ho=>
    obtain rfl:=KQ ho
    clear hdep
    have hlast:L 8=false:=by
     cases h:L 8 with
     |false=>rfl
     |true=>exact absurd ((C5.out (C7.out (C8.out h).2)).1) (by rw[HLi.out];exact KP)
    have HB:=KO (HB0.out hlast)
    refine KT rfl (fun K1 hK1=>?_)
    have hK:=KO hK1
    clear hK1
    go_wp2_with fail
    have hb1:Below W.heap.size W (W.alloc (.cells #[] 55)):=(KR _ _).alloc (KS _) _
    obtain⟨W1,hW1⟩:∃W1,W.alloc (.cells #[] 55)=W1:=⟨_,rfl⟩
    rw[hW1]at hb1
    rw[hW1]
    clear hW1
    refine hK.out _ _ ?_;exact bG
   |1,ho=>
    obtain rfl:=KQ ho
    clear hdep
    have hlast:L 8=false:=by
     cases h:L 8 with
     |false=>rfl
     |true=>exact absurd ((C4.out (C5.out (C7.out (C8.out h).2)).2).1) (by rw[HLi.out];exact KP)
    have HB:=KO (HB0.out hlast)
    refine KT rfl (fun K1 hK1=>?_)
    have hK:=KO hK1
    clear hK1
    go_wp2_with fail
    refine hK.out _ _ ?_;exact bG
   |2,ho=>
    obtain rfl:=KQ ho
    clear hdep
    have hlast:L 8=false:=by
     cases h:L 8 with
     |false=>rfl
     |true=>exact absurd ((C4.out (C5.out (C7.out (C8.out h).2)).2).2.1) (by rw[HLi.out];exact KP)
    have HB:=KO (HB0.out hlast)
    refine KT rfl (fun K1 hK1=>?_)
    have hK:=KO hK1
    clear hK1
    go_wp2_with fail
    refine hK.out _ _ ?_;exact bG
   |3,ho=>
    obtain rfl:=KQ ho
    clear hdep
    have hlast:L 8=false:=by
     cases h:L 8 with
     |false=>rfl
     |true=>exact absurd ((C4.out (C5.out (C7.out (C8.out h).2)).2).2.2) (by rw[HLi.out];exact KP)
    have HB:=KO (HB0.out hlast)
    refine KT rfl (fun K1 hK1=>?_)
    have hK:=KO hK1
    clear hK1
    go_wp2_with fail
    refine hK.out _ _ ?_;exact bG
   |4,ho=>
    obtain rfl:=KQ ho
    have hl1:=hdep ⟨1,.data⟩ (by simp) rfl
    obtain rfl:=F1.out hl1
    have hl2:=hdep ⟨2,.data⟩ (by simp) rfl
    obtain rfl:=F2.out hl2
    have hl3:=hdep ⟨3,.data⟩ (by simp) rfl
    obtain rfl:=F3.out hl3
    clear hdep
    have hlast:L 8=false:=by
     cases h:L 8 with
     |false=>rfl
     |true=>exact absurd ((C5.out (C7.out (C8.out h).2)).2) (by rw[HLi.out];exact KP)
    have HB:=KO (HB0.out hlast)
    have y0:=HYY.out.1
    have y1:=HYY.out.2.1
    have y2:=HYY.out.2.2
    have y3:=HCK.out
    refine KT rfl (fun K1 hK1=>?_)
    have hK:=KO hK1
    clear hK1
    go_wp2_with fail
    refine hK.out _ _ ?_;exact bG
   |5,ho=>
    obtain rfl:=KQ ho
    have hl0:=hdep ⟨0,.data⟩ (by simp) rfl
    obtain rfl:=F0.out hl0
    have hl4:=hdep ⟨4,.data⟩ (by simp) rfl
    obtain rfl:=F4.out hl4
    clear hdep
    have hlast:L 8=false:=by
     cases h:L 8 with
     |false=>rfl
     |true=>exact absurd ((C7.out (C8.out h).2)) (by rw[HLi.out];exact KP)
    have HB:=KO (HB0.out hlast)
    refine KT rfl (fun K1 hK1=>?_)
    have hK:=KO hK1
    clear hK1
    refine dF W rfl (.tmp 61) (.tmp 65) 47 rfl 55 ti0 _ 2 16 underlying47 HTI.out.1 HTI.out.2.1 HTI.out.2.2.1 HTI.out.2.2.2 rfl (by omega) A61 0 [] (fun _=>rfl) rfl (.inl rfl) rfl (A.map (·.add (K*2))) (T-K) (c-K) (LW.flatMap Pr.cells) rfl (HSD.out W HB.out) (by rw[dG,HLW.out]) (qM LW) (by have:=HLE.out;unfold maxLen;omega) (by have:=HLE.out;omega) ?_
    intro v4 W1 h41 h42 hg4
    obtain⟨A4,c4,rfl,hh4,hb1⟩:=oW (X:=fun k=>k< B5.heap.size) HLW.out h41 h42 hg4 (fun k hk=>Nat.lt_of_lt_of_le hk HB.out.size)
    clear h41 h42 hg4
    refine hK.out _ _ ?_;exact bG
   |6,ho=>
    obtain rfl:=KQ ho
    clear hdep
    have hlast:L 8=false:=by
     cases h:L 8 with
     |false=>rfl
     |true=>exact absurd ((C8.out h).1) (by rw[HLi.out];exact KP)
    have HB:=KO (HB0.out hlast)
    have q0:W.cell? ⟨gn,0,none⟩=some (.int .u64 m.ver):=(HN5.out.below HB.out HN5.out.lt).cell 0
    have q1:W.cell? ⟨gn,1,none⟩=some (.bool false):=(HN5.out.below HB.out HN5.out.lt).cell 1
    have q2:W.cell? ⟨gn,2,none⟩=some (.int .i64 0):=(HN5.out.below HB.out HN5.out.lt).cell 2
    refine KT rfl (fun K1 hK1=>?_)
    have hK:=KO hK1
    clear hK1
    go_wp2_with fail
    refine hK.out _ _ ?_;exact bG
   |7,ho=>
    obtain rfl:=KQ ho
    have hl5:=hdep ⟨5,.data⟩ (by simp) rfl
    have zz5:=KO (F5.out hl5).2
    obtain rfl:=(F5.out hl5).1
    clear hdep
    have hlast:L 8=false:=by
     cases h:L 8 with
     |false=>rfl
     |true=>exact absurd ((C8.out h).2) (by rw[HLi.out];exact KP)
    have HB:=KO (HB0.out hlast)
    refine KT rfl (fun K1 hK1=>?_)
    have hK:=KO hK1
    clear hK1
    go_wp2_with fail
    refine hK.out _ _ ?_;exact bG
   |8,ho=>
    obtain rfl:=KQ ho
    have hl6:=hdep ⟨6,.data⟩ (by simp) rfl
    obtain rfl:=F6.out hl6
    have hl7:=hdep ⟨7,.chain⟩ (by simp) rfl
    obtain rfl:=F7.out hl7
    clear hdep
    have hlast:=HLi.out
    have HB:=KO (HB0.out hlast)
    refine KT rfl (fun K1 hK1=>?_)
    have hK:=KO hK1
    clear hK1
    have hbk:=HQ25.out.below HB.out HQ25.out.lt
    refine aF rfl 44 (.tmp 7) (.tmp 67) rfl (w.heap.size+2) 0 #[.int .u64 m.ver,.bool false,.int .i64 0] rfl rfl (aY hbk 0 3 (by simp)) gD (Ld (by simp[K5])) ?_
    refine hK.out _ _ ?_;exact bG
   |9,ho=>
    obtain rfl:=KQ ho
    have hl8:=hdep ⟨8,.chain⟩ (by simp) rfl
    clear hdep
    refine KT rfl (fun K1 hK1=>?_)
    have hK:=KO hK1
    clear hK1
    go_wp2_with fail
    refine hK.out _ _ ?_;exact bG
theorem Ak (m:Mv) (cu:Cu) (most:Int) (w:World) (hs:MvAt w m) (ho:MvOk m):
  Calls prog 8 #[.agg m.row,.agg cu.row,.int .i64 most] w (jZ (iV m cu most) (kz m cu most) (dQ m cu most) w):=by
 by_cases hz:dA m cu=0
 ·by_cases hr:0<=most/\most<=1000
  ·have he:dQ m cu most=0:=by unfold dQ;rw[if_pos hz,if_pos hr]
   unfold iV kz
   rw[he,if_pos rfl,if_pos rfl]
   by_cases h0:most=0
   ·rw[if_pos h0,h0]
    simpa using wQ m cu 0 w hs ho hz rfl
   ·rw[if_neg h0]
    obtain⟨n,rfl⟩:∃n:Nat,most=((n:Nat):Int):=⟨most.toNat,by omega⟩
    have hn:0< n/\n<=1000:=by omega
    obtain⟨K,hK⟩:∃K,bel (allM m) cu.key=K:=⟨_,rfl⟩
    have hKl:K<=(allM m).length:=by rw[<-hK];exact kP _ _
    rw[hK,Int.toNat_natCast]
    unfold kw
    by_cases hl:K+n< (allM m).length
    ·rw[if_pos hl]
     have:=Dm m cu n n K (K+n) _ w hs ho hz rfl hn hK rfl hl rfl
     rwa [Nat.add_sub_cancel_left]at this
    ·rw[if_neg hl]
     have:=zT m cu n n K (allM m).length w hs ho hz rfl hn hK rfl (by omega)
     rw[KZ (by rw[List.length_drop];omega)]
     rwa [KZ (by rw[List.length_drop];omega)]at this
  ·have he:dQ m cu most=2:=by unfold dQ;rw[if_pos hz,if_neg hr]
   unfold iV kz
   rw[he,if_neg (by decide),if_neg (by decide)]
   exact BC m cu most w hs ho hz hr
 ·have he:dQ m cu most=dA m cu:=by unfold dQ;rw[if_neg hz]
  unfold iV kz
  rw[he,if_neg hz,if_neg hz]
  exact zD m cu most w hs ho hz
theorem DX {s t:Ss} (h:SsLike s t):bF t=bF s:=by
 rcases s with⟨seg,ws,ks,vs,cs,laid,wA,kA,vA,cA,wc,kc,vc,cc⟩
 rcases t with⟨seg',ws',ks',vs',cs',laid',wA',kA',vA',cA',wc',kc',vc',cc'⟩
 obtain⟨e1,e2,e3,e4,e5,e6,_⟩:=h
 dsimp only at e1 e2 e3 e4 e5 e6
 subst e1 e2 e3 e4 e5 e6
 rfl
theorem AJ {s t:Ss} (h:SsLike s t) (k:Nat):dI t k=dI s k:=by
 rcases s with⟨seg,ws,ks,vs,cs,laid,wA,kA,vA,cA,wc,kc,vc,cc⟩
 rcases t with⟨seg',ws',ks',vs',cs',laid',wA',kA',vA',cA',wc',kc',vc',cc'⟩
 obtain⟨e1,e2,e3,e4,e5,e6,_⟩:=h
 dsimp only at e1 e2 e3 e4 e5 e6
 subst e1 e2 e3 e4 e5 e6
 rfl
theorem mR {s t:Ss} (h:SsLike s t):bE t=bE s:=by
 rcases s with⟨seg,ws,ks,vs,cs,laid,wA,kA,vA,cA,wc,kc,vc,cc⟩
 rcases t with⟨seg',ws',ks',vs',cs',laid',wA',kA',vA',cA',wc',kc',vc',cc'⟩
 obtain⟨e1,e2,e3,e4,e5,e6,_⟩:=h
 dsimp only at e1 e2 e3 e4 e5 e6
 subst e1 e2 e3 e4 e5 e6
 rfl
theorem DT {s t:Ss} (h:SsLike s t) (c:Cfg):ug c t=ug c s:=by
 rcases s with⟨seg,ws,ks,vs,cs,laid,wA,kA,vA,cA,wc,kc,vc,cc⟩
 rcases t with⟨seg',ws',ks',vs',cs',laid',wA',kA',vA',cA',wc',kc',vc',cc'⟩
 obtain⟨e1,e2,e3,e4,e5,e6,_⟩:=h
 dsimp only at e1 e2 e3 e4 e5 e6
 subst e1 e2 e3 e4 e5 e6
 rfl
theorem xN {s t:Ss} (h:SsLike s t):nN t=nN s:=by
 rcases s with⟨seg,ws,ks,vs,cs,laid,wA,kA,vA,cA,wc,kc,vc,cc⟩
 rcases t with⟨seg',ws',ks',vs',cs',laid',wA',kA',vA',cA',wc',kc',vc',cc'⟩
 obtain⟨e1,e2,e3,e4,e5,e6,_⟩:=h
 dsimp only at e1 e2 e3 e4 e5 e6
 subst e1 e2 e3 e4 e5 e6
 rfl
theorem mW {s t:Ss} (h:SsLike s t) (F:Nat):∀k n,ik t F k n=ik s F k n
 |0,n=>by unfold ik;exact AJ h _
 |k+1,n=>by unfold ik;rw[mW h F k,mW h F k]
theorem BF {s t:Ss} (h:SsLike s t):Bq t=Bq s/\Bw t=Bw s:=by
 have ht:ig t=ig s:=by funext lv n;unfold ig;exact mW h _ _ _
 unfold Bq Bw
 rw[ht,xN h]
 exact⟨rfl,rfl⟩
theorem uz {s t:Ss} (h:SsLike s t) (c:Cfg):fV c t=fV c s:=by
 unfold fV qp lU
 rw[DT h,DX h,mR h]
theorem Aw {s t:Ss} {x y:Ix} (h:SsLike s t) (k:IxLike x y) (c:Cfg):fI c t y=fI c s x:=by
 unfold fI Jc
 rw[uz h,xN h,(BF h).1,(BF h).2,k.lev,k.mx,k.ct]
theorem zV {m n:Mv} (h:MvLike m n):MvLike (fq m) (fq n):=by
 unfold fq
 rw[h.tag]
 split
 ·exact⟨h.tag,h.ver,h.pc,h.ps,rfl,gN,og,rfl,rfl,rfl⟩
 split
 ·exact⟨h.tag,h.ver,rfl,gN,h.bc,h.bs,h.bx,rfl,rfl,rfl⟩
 ·exact⟨h.tag,h.ver,rfl,gN,rfl,gN,og,h.lc,h.lR,h.ln⟩
theorem xy {a n b k:Mv} (h:MvLike a n) (h2:MvLike b k):fM n k=fM a b:=by
 rw[jU h2,jR,jU h,jR]
theorem De {m n:Mv} (h:MvLike m n):aV n=aV m:=by
 have hb:eD n=eD m:=by unfold eD;rw[h.tag,h.pc,h.bc,h.lc,h.lR,uz h.ps,Aw h.bs h.bx]
 have hc:kJ n=kJ m:=by unfold kJ;rw[h.tag,h.pc,h.bc,h.lc]
 unfold aV
 rw[hb,hc,h.tag,xy h (zV h)]
theorem Dk {m n:Mv} (h:MvLike m n):allM n=allM m:=by
 unfold allM
 rw[h.tag,h.lR,mR h.ps,mR h.bs]
theorem BA {m n:Mv} (h:MvLike m n) (c:Cu):dA n c=dA m c:=by unfold dA;rw[De h,h.ver]
theorem ni {m n:Mv} (h:MvLike m n) (c:Cu) (k:Int):dQ n c k=dQ m c k/\iV n c k=iV m c k/\kz n c k=kz m c k:=by
 have he:dQ n c k=dQ m c k:=by unfold dQ;rw[BA h]
 unfold iV kz
 rw[he,Dk h,h.ver]
 exact⟨rfl,rfl,rfl⟩
theorem zO {m n:Mv} (h:MvLike m n):fM n m=true:=by
 rw[jR,jU h,oD]
 exact⟨rfl,rfl,⟨rfl,by rw[lD];exact⟨rfl,rfl,rfl,rfl,rfl,rfl⟩⟩,⟨rfl,by rw[lD];exact⟨rfl,rfl,rfl,rfl,rfl,rfl⟩,by rw[oz];exact⟨rfl,rfl,rfl⟩⟩,rfl,rfl,rfl⟩
theorem wT (m:Mv) (w:World) (hs:MvAt w m) (hw:∀x∈m.ps.ws,x< 18446744073709551616) (hv:∀x∈m.bs.ws,x< 18446744073709551616):
  Calls prog 5 #[.agg m.row,.int .i64 300] w fun r w'=>∃G:Bool,r= .returned (.bool G)/\(G=false->MvOk m)/\Below w.heap.size w w':=by
 obtain⟨G,hG⟩:∃b,gq m.ps=b:=⟨_,rfl⟩
 obtain⟨H,hH⟩:∃b,(gq m.bs||kR m.bx)=b:=⟨_,rfl⟩
 have q:=fun W=>pF m.pc m.ps W
 have q2:=fun W=>yC m.bc m.bs m.bx W
 have q3:=fun W (h:MvAt W m)=>xX m.lB m.lR m.lk 300 m.lc m.ln W h.log (by omega)
 rw[hG]at q
 rw[hH]at q2
 have Q:=KO q
 have Q2:=KO q2
 have Q3:=KO q3
 have hok:G=false->H=false->m.lR.length+tot (aB m.lR)<=300->MvOk m:=by
  intro g h l
  rw[g]at hG
  rw[h]at hH
  unfold gq at hG
  rw[Bool.or_eq_false_iff]at hH
  obtain⟨h1,h2⟩:=hH
  unfold gq at h1
  unfold kR at h2
  simp only[Bool.or_eq_false_iff,decide_eq_false_iff_not]at hG h1 h2
  obtain⟨⟨⟨a1,a2⟩,a3⟩,a4⟩:=hG
  obtain⟨⟨⟨b1,b2⟩,b3⟩,b4⟩:=h1
  exact⟨⟨hw,by omega,by omega,by omega,by omega⟩,⟨hv,by omega,by omega,by omega,by omega⟩,⟨by omega,by omega⟩,l⟩
 have HOK:=KO hok
 have HS:=KO hs
 clear q q2 q3 hG hH hok hs hw hv
 go_enter func5,ntmps5
 have HF:=KO (KR w.heap.size w)
 have HY1:=KO (HS.out)
 go_upto_region 1 with fail
 obtain⟨U2,h3⟩:∃U,w.alloc (.cells m.row 42)=U:=⟨_,rfl⟩
 have ba4:Below w.heap.size w U2:=by rw[<-h3];exact(KR _ _).alloc (by first|(simp;done)|(simp;omega)) _
 have bn5:Blk U2 (w.heap.size) 42 m.row:=by
  rw[<-h3]
  have hq:=(Blk.new w 42 m.row)
  exact hq
 try rw[h3]
 have HF6:=KO (aa HF.out ba4)
 have HY7:=KO (MvAt.below HY1.out ba4)
 clear HF HY1
 obtain⟨g8,h9⟩:∃g,(w.heap.size)=g:=⟨_,rfl⟩
 rw[h9]at bn5
 try rw[h9]
 have HX10:=KO bn5
 clear bn5 h9
 clear h3 ba4
 try dsimp only[]
 repeat (first|refine eX HX10.out 2 underlying31 bK rfl rfl rfl rfl ?_|go_values|go_skip|go_guarded|go_step|go_upon)
 refine(Q.out _).mono ?_
 rintro e w12 ⟨rfl,hb13⟩
 have HF14:=KO (aa HF6.out hb13)
 have HX15:=KO (HX10.out.below hb13 HX10.out.lt)
 have HY16:=KO (MvAt.below HY7.out hb13)
 clear HF6 HX10 HY7
 clear hb13
 cases G with
 |true=>
  go_wp2_with fail
  go_ret
  exact⟨true,rfl,fun h=>absurd h (by simp),HF14.out⟩
 |false=>
 try dsimp only[]
 repeat (first|refine eX HX15.out 17 underlying35 iy rfl rfl rfl rfl ?_|go_values|go_skip|go_guarded|go_step|go_upon)
 refine(Q2.out _).mono ?_
 rintro e w18 ⟨rfl,hb19⟩
 have HF20:=KO (aa HF14.out hb19)
 have HX21:=KO (HX15.out.below hb19 HX15.out.lt)
 have HY22:=KO (MvAt.below HY16.out hb19)
 clear HF14 HX15 HY16
 clear hb19
 cases H with
 |true=>
  go_wp2_with fail
  go_ret
  exact⟨true,rfl,fun h=>absurd h (by simp),HF20.out⟩
 |false=>
 try dsimp only[]
 repeat (first|refine eX HX21.out 35 underlying40 iq rfl rfl rfl rfl ?_|go_values|go_skip|go_guarded|go_step|go_upon)
 refine(Q3.out _ HY22.out).mono ?_
 rintro e w24 ⟨K,rfl,hK,hb25⟩
 have HF26:=KO (aa HF20.out hb25)
 have HX27:=KO (HX21.out.below hb25 HX21.out.lt)
 have HY28:=KO (MvAt.below HY22.out hb25)
 clear HF20 HX21 HY22
 clear hb25
 have HK:=KO hK
 clear hK
 go_wp2_with fail
 go_ret
 exact⟨K,rfl,fun h=>HOK.out (by trivial) (by trivial) (HK.out h),HF26.out⟩
theorem zQ (c:Cu) (W:World):(binOp .eql 44 (.agg #[.int .u64 c.ver,.bool c.on,.int .i64 c.key]) (.agg #[.int .u64 c.ver,.bool c.on,.int .i64 c.key])).run prog W= .ok (.bool true) W:=by
 have h3:=underlying44
 simp only[go_sem,h3]
 simp[go_sem]
def Gj (W:World) (B g N:Nat):Prop:=B<=g/\∃cur:Array Value,Blk W g 55 cur/\∀k,k< N->∃x,cur[k*2]?=some (.int .i64 x)
theorem Iq {W:World} {B:Nat} {A:Option Addr} {c N:Nat} {l:List Pr} (h:W.ownsRow B 55 2 (.slice A N c) N (l.flatMap Pr.cells)) (hN:l.length=N) (h0:0< N):∃g,A=some ⟨g,0,none⟩/\Gj W B g N:=by
 obtain⟨hx,h1|⟨g,cap,cur,hv,h2,h3,h4,h5,h6,h7⟩⟩:=h
 ·exact absurd h1.2 (by omega)
 ·cases hv
  refine⟨g,rfl,h2,cur,h3,fun k hk=>?_⟩
  have hl:k< l.length:=by omega
  have h8:(l.flatMap Pr.cells)[k*2]?=some (.int .i64 (l[k]'hl).key):=by
   have:=flat_get Pr.cells 2 (fun _=>rfl) l k 0 hl (by decide)
   simpa[Pr.cells]using this
  refine⟨(l[k]'hl).key,?_⟩
  rw[<-h7,List.getElem?_take]at h8
  split at h8
  ·simpa using h8
  ·cases h8
theorem Dy (m:Mv) (cu:Cu) (most:Int):(iV m cu most).length<=1000:=by
 unfold iV
 by_cases h:dQ m cu most=0
 ·rw[if_pos h]
  unfold dQ at h
  by_cases hz:dA m cu=0
  ·rw[if_pos hz]at h
   by_cases hr:0<=most/\most<=1000
   ·rw[List.length_take];omega
   ·rw[if_neg hr]at h;cases h
  ·rw[if_neg hz]at h;exact absurd h hz
 ·rw[if_neg h];exact K8 _
theorem qj (m:Mv) (cu:Cu) (most:Int) (w:World) (hs:MvAt w m) (hw:∀x∈m.ps.ws,x< 18446744073709551616) (hv:∀x∈m.bs.ws,x< 18446744073709551616):
  Calls prog 3 #[.agg m.row,.agg cu.row,.int .i64 most] w fun r w'=>r= .returned (.bool true)/\Below w.heap.size w w':=by
 obtain⟨W0,hW0⟩:∃W,((w.alloc (.cells m.row 42)).alloc (.cells #[.int .u64 cu.ver,.bool cu.on,.int .i64 cu.key] 44))=W:=⟨_,rfl⟩
 have hb0:Below w.heap.size w W0:=by rw[<-hW0];exact(((KR _ _).alloc (by first|exact KS _|(simp;done)|(simp;omega)) _).alloc (by first|exact KS _|(simp;done)|(simp;omega)) _)
 have bq0:Blk W0 w.heap.size 42 m.row:=by rw[<-hW0];exact((Blk.new _ _ _).alloc _)
 have HQ0:=KO bq0
 have bq1:Blk W0 (w.heap.size+1) 44 #[.int .u64 cu.ver,.bool cu.on,.int .i64 cu.key]:=by rw[<-hW0];exact(aj (by simp))
 have HQ1:=KO bq1
 have HW0:=KO hW0
 have HB0:=KO hb0
 clear hW0 hb0 bq0 bq1
 have hgr:=wT m W0 (hs.below HB0.out) hw hv
 have htw:=fun(ho:MvOk m) W (h:MvAt W m)=>zw m W h ho
 obtain⟨L,hL⟩:∃L,iV m cu most=L:=⟨_,rfl⟩
 obtain⟨C,hC⟩:∃C,kz m cu most=C:=⟨_,rfl⟩
 obtain⟨D,hD⟩:∃D,dQ m cu most=D:=⟨_,rfl⟩
 have hwo:∀(_:MvOk m) (n:Mv) W,MvLike m n->MvAt W n->Calls prog 7 #[.agg n.row,.agg cu.row,.int .i64 most] W (lH L C D W):=fun ho n W h1 h2=>by
  have:=DV n cu most W h2 (mU h1 ho) (h1.ps.cap) (h1.bs.cap)
  rw[(ni h1 _ _).1,(ni h1 _ _).2.1,(ni h1 _ _).2.2,hL,hC,hD]at this
  exact this
 have hwr:∀(_:MvOk m) W,MvAt W m->Calls prog 8 #[.agg m.row,.agg cu.row,.int .i64 most] W (jZ L C D W):=fun ho W h1=>by
  have:=Ak m cu most W h1 ho
  rw[hL,hC,hD]at this
  exact this
 have hll:L.length<=1000:=by rw[<-hL];exact Dy m cu most
 have HWO:=KO hwo
 have HWR:=KO hwr
 have HLL:=KO hll
 clear hwo hwr hL hC hD hll
 have hsm:∀(_:MvOk m) (n:Mv) W,MvLike m n->MvAt W n->MvAt W m->Calls prog 10 #[.agg n.row,.agg m.row] W (fun r w'=>r= .returned (.bool true)/\Below W.heap.size W w'):=fun ho n W h1 h2 h3=>by
  have:=zZ (.inr rfl) n m W h2 h3 (mU h1 ho) ho
  rw[zO h1]at this
  exact this
 have HSM:=KO hsm
 have HGR:=KO hgr
 have HTW:=KO htw
 have HS0:=KO (hs.below HB0.out)
 clear hgr htw hsm hs hw hv
 go_enter func3,ntmps3
 go_upto_region 1 with fail
 rw[HW0.out]
 try dsimp only[]
 repeat (first|refine Mi rfl 42 (.tmp 3) rfl w.heap.size 0 rfl _ _ (ae HQ0.out 0 46 rfl) underlying42 rfl af ?_|refine wp_load_mid 42 (.tmp 3) rfl w.heap.size 0 rfl _ _ (ae HQ0.out 0 46 rfl) underlying42 rfl af ?_|go_values|go_skip|go_guarded|go_step|go_upon)
 refine HGR.out.mono ?_
 rintro e w1 ⟨G,rfl,hG,hb1⟩
 have HB1:=KO (aa HB0.out hb1)
 have HQ01:=KO (HQ0.out.below hb1 HQ0.out.lt)
 have HQ11:=KO (HQ1.out.below hb1 HQ1.out.lt)
 have HS1:=KO (HS0.out.below hb1)
 clear hb1
 cases G with
 |true=>
  clear hG
  go_wp2_with fail
  go_ret
  exact⟨rfl,HB1.out⟩
 |false=>
 have hok:=hG rfl
 clear hG
 go_upto_region 3 with fail
 try dsimp only[]
 repeat (first|refine Mi rfl 42 (.tmp 3) rfl w.heap.size 0 rfl _ _ (ae HQ01.out 0 46 rfl) underlying42 rfl af ?_|refine wp_load_mid 42 (.tmp 3) rfl w.heap.size 0 rfl _ _ (ae HQ01.out 0 46 rfl) underlying42 rfl af ?_|go_values|go_skip|go_guarded|go_step|go_upon)
 refine(HTW.out hok _ HS1.out).mono ?_
 rintro e w2 ⟨n,rfl,hlk,hh,hb2⟩
 have HB2:=KO (aa HB1.out hb2)
 have HQ02:=KO (HQ01.out.below hb2 HQ01.out.lt)
 have HQ12:=KO (HQ11.out.below hb2 HQ11.out.lt)
 have HS2:=KO (HS1.out.below hb2)
 have HN2:=KO hh
 have HLK:=KO hlk
 have HOK:=KO hok
 clear hb2 hh hlk hok
 try dsimp only[]
 repeat (first|(refine ah rfl 42 (.tmp 7) (.tmp 19) rfl w2.heap.size 0 n.row rfl rfl (aj rfl) (by simp) af (Ld (by simp[K5])) ?_;intro v3 hm1 hk1;refine Hid.out ?_)|go_values|go_skip|go_guarded|go_step|go_upon)
 refine KO ?_
 have hb3:Below w2.heap.size w2 v3:=((KR _ _).alloc (KS _) _).trans (hm1.below (by simp) (fun k hk=>Nat.le_of_eq (Eq.symm hk)))
 have HB3:=KO (aa HB2.out hb3)
 have HQ03:=KO (HQ02.out.below hb3 HQ02.out.lt)
 have HQ13:=KO (HQ12.out.below hb3 HQ12.out.lt)
 have HS3:=KO (HS2.out.below hb3)
 have HN3:=KO ((HN2.out.ext hb3).now)
 have HV3:=KO (show Blk v3 w2.heap.size 42 n.row by simpa[dn]using hk1)
 clear hm1 hk1 hb3
 obtain⟨gv,hgv⟩:∃g,w2.heap.size=g:=⟨_,rfl⟩
 rw[hgv]at HV3 ⊢
 clear hgv
 have hgv3:gv< v3.heap.size:=HV3.out.lt
 go_upto_region 4 with fail
 repeat (first|refine Mi rfl 42 (.tmp 7) rfl gv 0 rfl _ _ (ae HV3.out 0 46 rfl) underlying42 rfl af ?_|refine Mi rfl 44 (.tmp 4) rfl (w.heap.size+1) 0 rfl _ _ (ae HQ13.out 0 3 rfl) underlying44 rfl gD ?_|go_values|go_skip|go_guarded|go_step|go_upon)
 refine(HWO.out HOK.out n _ HLK.out HN3.out).mono ?_
 rintro e u4 ⟨A1,c1,rfl,ho1,hb⟩
 go_upto_region 5 with fail
 obtain⟨v4,hv4⟩:∃W,u4.alloc (.cells #[.int .u64 C.ver,.bool C.on,.int .i64 C.key] 44)=W:=⟨_,rfl⟩
 have hb4:Below v3.heap.size v3 v4:=by rw[<-hv4];exact hb.alloc hb.size _
 have hx4:Blk v4 u4.heap.size 44 #[.int .u64 C.ver,.bool C.on,.int .i64 C.key]:=by rw[<-hv4];exact Blk.new _ _ _
 have ho4:v4.ownsRow v3.heap.size 55 2 (.slice A1 L.length c1) L.length (L.flatMap Pr.cells):=by rw[<-hv4];exact ho1.alloc _
 rw[hv4]
 obtain⟨g4,hg4⟩:∃g,u4.heap.size=g:=⟨_,rfl⟩
 rw[hg4]at hx4 ⊢
 have HB4:=KO hb4
 have HX4:=KO hx4
 have HO4:=KO ho4
 clear hb hb4 hx4 ho1 ho4 hv4 hg4
 have HQ04:=KO (HQ03.out.below HB4.out HQ03.out.lt)
 have HQ14:=KO (HQ13.out.below HB4.out HQ13.out.lt)
 go_upto_region 5 with fail
 repeat (first|refine Mi rfl 42 (.tmp 3) rfl w.heap.size 0 rfl _ _ (ae HQ04.out 0 46 rfl) underlying42 rfl af ?_|refine Mi rfl 44 (.tmp 4) rfl (w.heap.size+1) 0 rfl _ _ (ae HQ14.out 0 3 rfl) underlying44 rfl gD ?_|go_values|go_skip|go_guarded|go_step|go_upon)
 refine(HWR.out HOK.out _ (HS3.out.below HB4.out)).mono ?_
 rintro e u5 ⟨A2,c2,rfl,hs2,hb⟩
 go_upto_region 6 with fail
 obtain⟨v5,hv5⟩:∃W,u5.alloc (.cells #[.int .u64 C.ver,.bool C.on,.int .i64 C.key] 44)=W:=⟨_,rfl⟩
 have hb5:Below v4.heap.size v4 v5:=by rw[<-hv5];exact hb.alloc hb.size _
 have hx5:Blk v5 u5.heap.size 44 #[.int .u64 C.ver,.bool C.on,.int .i64 C.key]:=by rw[<-hv5];exact Blk.new _ _ _
 have hs5:Sl v5 A2 (L.flatMap Pr.cells):=by rw[<-hv5];exact hs2.below ((KR _ _).alloc (KS _) _)
 rw[hv5]
 obtain⟨g5,hg5⟩:∃g,u5.heap.size=g:=⟨_,rfl⟩
 rw[hg5]at hx5 ⊢
 have HX5:=KO hx5
 have HS5:=KO hs5
 have HB5:=KO (aa HB4.out hb5)
 have HO5:=KO (own_below HO4.out hb5)
 have HX45:=KO (HX4.out.below hb5 HX4.out.lt)
 clear hb hb5 hx5 hs2 hs5 hv5 hg5
 go_upto_region 6 with fail
 go_wp2_with fail
 refine(uf A1 A2 L L c1 c2 _ (aA HO5.out) HS5.out (by have:=HLL.out;omega) (by have:=HLL.out;omega)).mono ?_
 rw[decide_eq_true rfl]
 rintro e v6 ⟨rfl,hb⟩
 have HB6:=KO (aa HB5.out hb)
 have HO6:=KO (own_below HO5.out hb)
 have x4:=(HX45.out.below hb HX45.out.lt).cell
 have x5:=(HX5.out.below hb HX5.out.lt).cell
 have he0:=fun W=>zQ C W
 clear hb
 go_wp2_with fail
 by_cases h0:0< L.length
 ·obtain⟨gA,rfl,hky⟩:=Iq HO6.out rfl h0
  clear x4 x5 he0
  go_loopw [15] (fun i wr=>∃k:Nat,k<=L.length/\i= .int .i64 k/\Hid (Below v3.heap.size v3 wr)/\Hid (Gj wr v3.heap.size gA L.length)) (fun i _=>L.length-(intOf i).toNat)
  case atStart=>exact⟨0,K8 _,rfl,HB6.out,hky⟩
  case round=>
   obtain⟨k,hk,rfl,HBW,HKY⟩:=hrel
   by_cases hlt:k< L.length
   ·obtain⟨hgA,cur,hblk,hx⟩:=HKY.out
    have HXX:=KO hx
    obtain⟨x,hx⟩:=hx k hlt
    have c1:wr.cell? ⟨gA,k*2,none⟩=some (.int .i64 x):=(hblk.cell _).trans hx
    have f1:wr.frozen? ⟨gA,k*2,none⟩=false:=hblk.frozen _
    have i0:(0:Int)<=(k:Int):=by omega
    have i1:(k:Int)< (L.length:Int):=by omega
    have hwr:IntKind.i64.wrap ((k:Int)+1)=((k+1:Nat):Int):=by rw[IntWalk.i64_in _ (by have:=HLL.out;omega)];omega
    have HBK:=KO hblk
    have HGA:=KO hgA
    clear hx hblk hgA
    go_wp2_with fail
    go_roundw
    case rel=>
     refine⟨k+1,by omega,by go_num,HBW.out.setCell (p:=⟨gA,k*2,none⟩) HGA.out _,HGA.out,_,HBK.out.set_ (k*2) _,fun j hj=>?_⟩
     by_cases hjk:j=k
     ·subst hjk
      exact⟨_,by rw[Array.getElem?_setIfInBounds_self_of_lt];have:=HXX.out j hj;obtain⟨y,hy⟩:=this;exact(Array.getElem?_eq_some_iff.1 hy).1⟩
     ·obtain⟨y,hy⟩:=HXX.out j hj
      exact⟨y,by rw[Array.getElem?_setIfInBounds_ne (by omega)];exact hy⟩
    case measure=>simp[intOf];omega
   ·have i1:¬(k:Int)< (L.length:Int):=by omega
    have hbw:=HBW.out
    go_upto_region 11 with fail
    have hq7:=HV3.out.below hbw HV3.out.lt
    have hq3:=HQ03.out.below hbw HQ03.out.lt
    repeat (first|refine eX hq7 0 underlying42 af rfl rfl rfl rfl ?_|refine eX hq3 0 underlying42 af rfl rfl rfl rfl ?_|go_values|go_skip|go_guarded|go_step|go_upon)
    refine(HSM.out HOK.out n _ HLK.out (HN3.out.below hbw) (HS3.out.below hbw)).mono ?_
    rintro e w9 ⟨rfl,hb9⟩
    have HB9:=KO (aa HB3.out (hbw.trans (hb9.mono hbw.size)))
    clear hb9 hq7 hq3
    go_wp2_with fail
    go_ret
    exact⟨rfl,HB9.out⟩
 ·have hz:L.length=0:=by omega
  clear x4 x5 he0
  go_loopw [15] (fun i wr=>i= .int .i64 0/\Hid (Below v3.heap.size v3 wr)) (fun i _=>0)
  case atStart=>exact⟨rfl,HB6.out⟩
  case round=>
   obtain⟨rfl,HBW⟩:=hrel
   have hbw:=HBW.out
   have i1:¬(0:Int)< (L.length:Int):=by omega
   go_upto_region 11 with fail
   have hq7:=HV3.out.below hbw HV3.out.lt
   have hq3:=HQ03.out.below hbw HQ03.out.lt
   repeat (first|refine eX hq7 0 underlying42 af rfl rfl rfl rfl ?_|refine eX hq3 0 underlying42 af rfl rfl rfl rfl ?_|go_values|go_skip|go_guarded|go_step|go_upon)
   refine(HSM.out HOK.out n _ HLK.out (HN3.out.below hbw) (HS3.out.below hbw)).mono ?_
   rintro e w9 ⟨rfl,hb9⟩
   have HB9:=KO (aa HB3.out (hbw.trans (hb9.mono hbw.size)))
   clear hb9 hq7 hq3
   go_wp2_with fail
   go_ret
   exact⟨rfl,HB9.out⟩
section
open Go.ChangeShapes Go.WideShapes Go.ChangeAt Go.Deep
section
variable {H:Type} {enc:TypeId × Value->H} {P:Program}
theorem tO (hl:laidOutB P=true) {W W':World} {sp:Nat->Bool}:∀{ts:List TypeId} {vs:List Value} {ds:List (DataW H)} {ps:List MemPlace},
  (∀t∈ts,P.readableRec t=true/\t< P.types.size)->DataW.TrodAll enc P W 0 (fun _=>true) true ts vs ds ps->(∀p∈ps,W.sameAt W' p)->(∀p∈ps,sp p.block=true)->
  DataW.TrodAll enc P W' 0 sp true ts vs ds ps:=by
 intro ts
 induction ts with
 |nil=>
  intro vs ds ps _ h _ _
  obtain⟨rfl,rfl,rfl⟩:=trodAll_nil h
  exact trodAll_mk0
 |cons t ts ih=>
  intro vs ds ps hr h hs hsp
  obtain⟨v,vs',d,ds',p,q,rfl,rfl,rfl,h0,h1⟩:=trodAll_cons h
  exact⟨p,q,WideElems.Trod_stays hl (hr t (by simp)).1 (hr t (by simp)).2 h0 (fun x hx=>hs x (by simp[hx])) (fun x hx=>hsp x (by simp[hx])),
   ih (fun t' ht'=>hr t' (by simp[ht'])) h1 (fun x hx=>hs x (by simp[hx])) (fun x hx=>hsp x (by simp[hx])),rfl⟩
theorem EK {f:Func} {s:ChangeSpec} {W W':World} {args:Array Value} {ds:List (DataW H)} {before:List MemPlace} {tb:TypeId}
  (hl:laidOutB P=true) (hr:∀t∈f.params.toList,P.readableRec t=true/\t< P.types.size) (hv:s.vars=[])
  (hW:DataW.Whole enc P f.params.toList s.vars false W args.toList ds [] before)
  (hres:(s.fn H (ds++[])).results=[.lit (.bool true)]) (harg:(s.fn H (ds++[])).args=ds) (hvr:(s.fn H (ds++[])).vars=[])
  (hrt:f.resultTypes=#[tb]) (hbt:P.underlying tb=some .bool) (hb:Below W.heap.size W W'):
  s.post enc P f false true false false W args (.bool true) W':=by
 have hlt:=hW.lt
 have hW0:=hW
 obtain⟨p,q,hA,hV,rfl,_,_⟩:=hW
 rw[hv]at hV
 obtain⟨_,rfl⟩:=trodVars_none hV
 refine⟨ds,[],p++[],[],p,[],hW0,?_,?_,?_,World.keptBut_mono (fun x hx=>⟨hx,?_⟩) (hb.frame (·∈p++[])),fun h=>by cases h⟩
 ·rw[hres,hrt]
  exact trodAll_cons_mk (shut_bool hbt _) trodAll_mk0
 ·rw[harg]
  refine tO hl hr hA (fun x hx=>hb.same (hlt x (by simp[hx]))) (fun x hx=>?_)
  have:=hlt x (by simp[hx])
  simpa using this
 ·rw[hv,hvr];rfl
 ·rw[List.append_nil]at hx;exact .inr (.inl hx)
theorem EB {w:World} {a:Addr} {v:Value} (h:w.cell? a=some v):a=⟨a.block,a.off,none⟩:=by
 obtain⟨b,o,s⟩:=a
 cases s with
 |none=>rfl
 |some s=>
  unfold World.cell? at h
  split at h <;> simp at h
theorem iI {α:Type} {w:World} {t e:TypeId} {s fuel:Nat} {v:Value} {x:DataW H × List MemPlace} (f:α->List Value) (R:α->Prop) (hf:∀x,(f x).length=s) (hs:0< s)
  (ht:P.underlying t=some (.slice e)) (hc:P.cellsOf e=s)
  (hdec:∀fuel cs y,Lu enc P w 0 (fun _=>true) true fuel e cs=some y->∃x,cs=f x/\R x)
  (hv:∃a len cap,v= .slice a len cap) (h:Lu enc P w 0 (fun _=>true) true fuel t v.cells.toList=some x):
  ∃(A:Option Addr) (l:List α) (c:Nat),v= .slice A l.length c/\l.length<=c/\c<=maxLen/\Sl w A (l.flatMap f)/\∀x∈l,R x:=by
 obtain⟨a0,len0,cap0,rfl⟩:=hv
 rcases open_slice ht h with⟨hcs,_⟩|⟨a,len,cap,m,n,D,Pl,hcs,-,hlc,hcm,hm,-,hi⟩
 ·simp only[Value.cells]at hcs
  injection hcs with hcs _
  rw[hcs]
  exact⟨none,[],0,rfl,KS _,K8 _,.inl rfl,by simp⟩
 ·simp only[Value.cells]at hcs
  injection hcs with hcs _
  rw[hcs]
  have hlm:len<=m:=by rw[hm];simp;exact hlc
  have hx:∀i,i< len->∃x,(∀j,j< s->w.cell? (a.add (i*s+j))=(f x)[j]?)/\R x:=fun i hil=>by
   obtain⟨cs',h1,h2⟩:=hi i (by omega)
   obtain⟨x,rfl,hR⟩:=hdec _ _ _ h2
   rw[hc]at h1
   obtain⟨_,_,h3⟩:=World.cells?_some h1
   refine⟨x,fun j hj=>?_,hR⟩
   rw[<-h3 j hj,Go.Deep.add_add]
  have hl:∃l:List α,l.length=len/\∀i (hil:i< l.length),(∀j,j< s->w.cell? (a.add (i*s+j))=(f (l[i]'hil))[j]?)/\R (l[i]'hil):=by
   clear hi hlm hcs hm hlc hcm h
   induction len with
   |zero=>exact⟨[],rfl,fun i hil=>by simp at hil⟩
   |succ len ih=>
    obtain⟨l,hl,hg⟩:=ih fun i hi=>hx i (by omega)
    obtain⟨y,hy⟩:=hx len (by omega)
    refine⟨l++[y],by simp[hl],fun i hil=>?_⟩
    by_cases e:i< l.length
    ·rw[List.getElem_append_left e];exact hg i e
    ·have:i=len:=by simp at hil;omega
     subst this
     rw[List.getElem_append_right (by omega)]
     simpa[hl]using hy
  obtain⟨l,rfl,hg⟩:=hl
  refine⟨some a,l,cap,rfl,hlc,hcm,?_,fun x hx=>?_⟩
  ·by_cases h0:l.length=0
   ·left;rw[List.eq_nil_of_length_eq_zero h0];rfl
   ·right
    have hc0:=(hg 0 (by omega)).1 0 hs
    have hf0:(f (l[0]'(by omega)))[0]?=some ((f (l[0]'(by omega)))[0]'(by rw[hf];exact hs)):=List.getElem?_eq_getElem _
    rw[hf0]at hc0
    have ha0:a.add (0*s+0)=a:=by simp[Addr.add]
    rw[ha0]at hc0
    have ha:=EB hc0
    refine⟨a.block,a.off,by rw[<-ha],World.block_lt_of_cell? w a hc0,fun j u hu=>?_⟩
    have hjl:j< l.length*s:=by
     have:=(List.getElem?_eq_some_iff.1 hu).1
     rwa [aQ f s hf]at this
    have hi:j/s< l.length:=Nat.div_lt_of_lt_mul (by rw[LQ];exact hjl)
    have hjs:j %s< s:=Nat.mod_lt _ hs
    have hj:j/s*s+j %s=j:=by rw[LQ];exact Nat.div_add_mod j s
    have hc1:=(hg (j/s) hi).1 (j %s) hjs
    rw[hj]at hc1
    have hfl:=flat_get f s hf l (j/s) (j %s) hi hjs
    rw[hj,hu]at hfl
    rw[<-hfl]at hc1
    rw[ha,Addr.add_lit]at hc1
    exact hc1
  ·obtain⟨i,hi,rfl⟩:=List.getElem_of_mem hx
   exact(hg i hi).2
theorem Ik {w:World} {e ti tb:TypeId} (he:P.underlying e=some (.struct #[⟨"Key",ti,0,false,"","",0⟩,⟨"Val",ti,1,false,"","",8⟩,⟨"Dead",tb,2,false,"","",16⟩]))
  (hi:P.underlying ti=some (.int .i64)) (hb:P.underlying tb=some .bool) (hc:P.cellsOf e=3) (hci:P.cellsOf ti=1) (hcb:P.cellsOf tb=1)
  (fuel:Nat) (cs:List Value) (y:DataW H × List MemPlace) (h:Lu enc P w 0 (fun _=>true) true fuel e cs=some y):∃x:Ent,cs=x.cells/\True:=by
 obtain⟨xs,n,_,_,hlen,hxl,hf⟩:=M5 he h
 rw[hc]at hlen
 match cs,hlen with
 |[c0,c1,c2],_=>
  match xs,hxl with
  |[x0,x1,x2],_=>
   have h0:=hf 0 ⟨"Key",ti,0,false,"","",0⟩ rfl
   have h1:=hf 1 ⟨"Val",ti,1,false,"","",8⟩ rfl
   have h2:=hf 2 ⟨"Dead",tb,2,false,"","",16⟩ rfl
   dsimp only at h0 h1 h2
   rw[hci]at h0 h1
   rw[hcb]at h2
   obtain⟨k,e0,_⟩:=Mh hi h0
   obtain⟨v,e1,_⟩:=Mh hi h1
   obtain⟨d,e2,_⟩:=DataW.trod_bool hb h2
   simp at e0 e1 e2
   subst e0 e1 e2
   exact⟨⟨k,v,d⟩,rfl,trivial⟩
end
end
section
open Go.ChangeShapes Go.WideShapes Go.ChangeAt
theorem own:ownKnob prog.godebug=none:=by kernel_rfl
theorem laidOut:laidOutB prog=true:=by kernel_rfl
end
section
open Go.ChangeShapes Go.WideShapes Go.ChangeAt
theorem FT {H:Type} {enc:TypeId × Value->H} {w:World} (fuel:Nat) (cs:List Value) (y:DataW H × List MemPlace) (h:Lu enc prog w 0 (fun _=>true) true fuel 143 cs=some y):
  ∃(A:Option Addr) (l:List Ent) (c:Nat),cs=[.slice A l.length c]/\l.length<=c/\c<=maxLen/\Sl w A (l.flatMap Ent.cells):=by
 have hv:∃a len cap,cs=[.slice a len cap]:=by
  rcases Go.Deep.open_slice underlying143 h with⟨h1,_⟩|⟨a,len,cap,_,_,_,_,h1,_⟩
  ·exact⟨_,_,_,h1⟩
  ·exact⟨_,_,_,h1⟩
 obtain⟨a,len,cap,rfl⟩:=hv
 obtain⟨A,l,c,h1,h2,h3,h4,_⟩:=iI (v:= .slice a len cap) Ent.cells (fun _=>True) Ent.cells_length (by omega) underlying143 (by kernel_rfl)
  (fun fuel cs y h=>Ik underlying183 underlying2 underlying4 (by kernel_rfl) (by kernel_rfl) (by kernel_rfl) fuel cs y h) ⟨_,_,_,rfl⟩ h
 exact⟨A,l,c,by rw[h1],h2,h3,h4⟩
theorem GZ {H:Type} {enc:TypeId × Value->H} {w:World} (fuel:Nat) (cs:List Value) (y:DataW H × List MemPlace) (h:Lu enc prog w 0 (fun _=>true) true fuel 145 cs=some y):
  ∃r:Rm,cs=[r.v]/\r.Ok w:=by
 obtain⟨xs,n,_,_,hlen,hxl,hg⟩:=M5 underlying145 h
 rw[show prog.cellsOf 145=1 from by kernel_rfl]at hlen
 match cs,hlen with
 |[c0],_=>
  match xs,hxl with
  |[x0],_=>
   have h0:Lu enc prog w 0 (fun _=>true) true n 143 (LP (prog.cellsOf 143) (Ls 0 [c0]))=some x0:=hg 0 _ rfl
   rw[show prog.cellsOf 143=1 from by kernel_rfl]at h0
   obtain⟨A,l,c,e,h2,h3,h4⟩:=FT _ _ _ h0
   simp at e
   subst e
   exact⟨⟨l,A,c⟩,rfl,h4,h2,h3⟩
end
section
open Go.ChangeShapes Go.WideShapes Go.ChangeAt
theorem vU {n:Int} (h:(Lit.int .u64 n).wf=true):0<=n/\n<=18446744073709551615:=by
 simp only[Lit.wf,Bool.and_eq_true,decide_eq_true_eq]at h
 exact h
end
section
open Go.ChangeShapes Go.WideShapes Go.ChangeAt
theorem CG {H:Type} {enc:TypeId × Value->H} {w:World} (fuel:Nat) (cs:List Value) (y:DataW H × List MemPlace) (h:Lu enc prog w 0 (fun _=>true) true fuel 24 cs=some y):
  ∃c:Cfg,cs=c.row.toList:=by
 obtain⟨xs,n,_,_,hlen,hxl,hg⟩:=M5 underlying24 h
 rw[show prog.cellsOf 24=9 from by kernel_rfl]at hlen
 match cs,hlen with
 |[c0,c1,c2,c3,c4,c5,c6,c7,c8],_=>
  match xs,hxl with
  |[x0,x1,x2,x3,x4,x5,x6,x7,x8],_=>
   have h0:Lu enc prog w 0 (fun _=>true) true n 5 (LP (prog.cellsOf 5) (Ls 0 [c0,c1,c2,c3,c4,c5,c6,c7,c8]))=some x0:=hg 0 _ rfl
   rw[show prog.cellsOf 5=1 from by kernel_rfl]at h0
   obtain⟨n0,e0,_,_⟩:=Mh underlying5 h0
   have h1:Lu enc prog w 0 (fun _=>true) true n 3 (LP (prog.cellsOf 3) (Ls 1 [c0,c1,c2,c3,c4,c5,c6,c7,c8]))=some x1:=hg 1 _ rfl
   rw[show prog.cellsOf 3=1 from by kernel_rfl]at h1
   obtain⟨n1,e1,_,_⟩:=Mh underlying3 h1
   have h2:Lu enc prog w 0 (fun _=>true) true n 3 (LP (prog.cellsOf 3) (Ls 2 [c0,c1,c2,c3,c4,c5,c6,c7,c8]))=some x2:=hg 2 _ rfl
   rw[show prog.cellsOf 3=1 from by kernel_rfl]at h2
   obtain⟨n2,e2,_,_⟩:=Mh underlying3 h2
   have h3:Lu enc prog w 0 (fun _=>true) true n 3 (LP (prog.cellsOf 3) (Ls 3 [c0,c1,c2,c3,c4,c5,c6,c7,c8]))=some x3:=hg 3 _ rfl
   rw[show prog.cellsOf 3=1 from by kernel_rfl]at h3
   obtain⟨n3,e3,_,_⟩:=Mh underlying3 h3
   have h4:Lu enc prog w 0 (fun _=>true) true n 3 (LP (prog.cellsOf 3) (Ls 4 [c0,c1,c2,c3,c4,c5,c6,c7,c8]))=some x4:=hg 4 _ rfl
   rw[show prog.cellsOf 3=1 from by kernel_rfl]at h4
   obtain⟨n4,e4,_,_⟩:=Mh underlying3 h4
   have h5:Lu enc prog w 0 (fun _=>true) true n 3 (LP (prog.cellsOf 3) (Ls 5 [c0,c1,c2,c3,c4,c5,c6,c7,c8]))=some x5:=hg 5 _ rfl
   rw[show prog.cellsOf 3=1 from by kernel_rfl]at h5
   obtain⟨n5,e5,_,_⟩:=Mh underlying3 h5
   have h6:Lu enc prog w 0 (fun _=>true) true n 3 (LP (prog.cellsOf 3) (Ls 6 [c0,c1,c2,c3,c4,c5,c6,c7,c8]))=some x6:=hg 6 _ rfl
   rw[show prog.cellsOf 3=1 from by kernel_rfl]at h6
   obtain⟨n6,e6,_,_⟩:=Mh underlying3 h6
   have h7:Lu enc prog w 0 (fun _=>true) true n 3 (LP (prog.cellsOf 3) (Ls 7 [c0,c1,c2,c3,c4,c5,c6,c7,c8]))=some x7:=hg 7 _ rfl
   rw[show prog.cellsOf 3=1 from by kernel_rfl]at h7
   obtain⟨n7,e7,_,_⟩:=Mh underlying3 h7
   have h8:Lu enc prog w 0 (fun _=>true) true n 3 (LP (prog.cellsOf 3) (Ls 8 [c0,c1,c2,c3,c4,c5,c6,c7,c8]))=some x8:=hg 8 _ rfl
   rw[show prog.cellsOf 3=1 from by kernel_rfl]at h8
   obtain⟨n8,e8,_,_⟩:=Mh underlying3 h8
   simp at e0 e1 e2 e3 e4 e5 e6 e7 e8
   subst e0 e1 e2 e3 e4 e5 e6 e7 e8
   exact⟨⟨n0,n1,n2,n3,n4,n5,n6,n7,n8⟩,rfl⟩
theorem Dg {H:Type} {enc:TypeId × Value->H} {w:World} (fuel:Nat) (cs:List Value) (y:DataW H × List MemPlace) (h:Lu enc prog w 0 (fun _=>true) true fuel 38 cs=some y):
  ∃(B:Option Addr) (Rs:List Rm) (c:Nat) (n:Int),cs=[.slice B Rs.length c,.int .u64 n]/\RunsAt w B Rs/\0<=n/\n<=18446744073709551615:=by
 obtain⟨xs,m,_,_,hlen,hxl,hg⟩:=M5 underlying38 h
 rw[show prog.cellsOf 38=2 from by kernel_rfl]at hlen
 match cs,hlen with
 |[c0,c1],_=>
  match xs,hxl with
  |[x0,x1],_=>
   have h0:Lu enc prog w 0 (fun _=>true) true m 36 (LP (prog.cellsOf 36) (Ls 0 [c0,c1]))=some x0:=hg 0 _ rfl
   have h1:Lu enc prog w 0 (fun _=>true) true m 22 (LP (prog.cellsOf 22) (Ls 1 [c0,c1]))=some x1:=hg 1 _ rfl
   rw[show prog.cellsOf 36=1 from by kernel_rfl]at h0
   rw[show prog.cellsOf 22=1 from by kernel_rfl]at h1
   obtain⟨n,e1,_,f1⟩:=Mh underlying22 h1
   have hv:∃a len cap,LP 1 (Ls 0 [c0,c1])=[.slice a len cap]:=by
    rcases Go.Deep.open_slice underlying36 h0 with⟨h1,_⟩|⟨a,len,cap,_,_,_,_,h1,_⟩
    ·exact⟨_,_,_,h1⟩
    ·exact⟨_,_,_,h1⟩
   obtain⟨a,len,cap,e0⟩:=hv
   simp at e0 e1
   subst e0 e1
   obtain⟨B,Rs,c,h2,h3,h4,h5,h6⟩:=iI (v:= .slice a len cap) (s:=1) (fun r:Rm=>[r.v]) (fun r=>r.Ok w) (fun _=>rfl) (by omega) underlying36 (by kernel_rfl) (fun fuel cs y h=>GZ fuel cs y h) ⟨_,_,_,rfl⟩ h0
   have hm:Rs.flatMap (fun r=>[r.v])=Rs.map Rm.v:=by
    clear h2 h3 h5 h6
    induction Rs with
    |nil=>rfl
    |cons r Rs ih=>rw[List.flatMap_cons,ih];rfl
   rw[hm]at h5
   obtain⟨g1,g2⟩:=vU f1
   exact⟨B,Rs,c,n,by rw[h2],⟨h5,h6⟩,g1,g2⟩
end
end Go.Proofs.YtpbmbjjfdpkhbaaGreat
