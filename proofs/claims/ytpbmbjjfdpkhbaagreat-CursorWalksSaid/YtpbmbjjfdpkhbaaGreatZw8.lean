/- part of the proof -/
import Derived.Deep.CutRange
import Derived.Test.YtpbmbjjfdpkhbaaGreatZw7
import Derived.Test.YtpbmbjjfdpkhbaaGreatZw5
import Derived.Test.YtpbmbjjfdpkhbaaGreatZw6
import Derived.Test.YtpbmbjjfdpkhbaaGreatZw2
import Derived.RangeFuncOwn
import Derived.RangeFuncLeaves
import Derived.OwnWalkIn
import Derived.TacticsInMore
import Derived.LoopIn
import Derived.LoopNIn
import Derived.BigQuiet
import Derived.Deep.QuietTactic
import Derived.Test.YtpbmbjjfdpkhbaaGreatZw4
import Derived.Test.YtpbmbjjfdpkhbaaGreatZw3
namespace Go.Proofs.YtpbmbjjfdpkhbaaGreat
open Go Go.RowKit
set_option linter.all false
set_option maxRecDepth 100000
set_option maxHeartbeats 32000000
open Go.Proofs.Tryz
open And renaming intro->KW
open Below renaming refl->KR
open Bool renaming false_eq_true->Mj,false_ne_true->KP
open Go renaming bodyPost_ret->KV,callsIn_of_wp_marks->MV,results_none->L6,wpOpIn_step->Le
open Go.Lib renaming hid->KO
open Go.World renaming ownsRow_nil->Li,putObj_heap_other->K9,size_alloc->KX
open List renaming append_assoc->Nc,append_toArray->Me,cons_append->Mr,getD_eq_getElem?_getD->Lf,getElem?_cons_succ->La,getElem?_cons_zero->Lb,getElem?_eq_getElem->K7,mem_of_getElem?->M7,nil_append->LA,push_toArray->Mq,range->Lt,range'->MK,setIfInBounds_toArray->Lg,set_cons_succ->LK,set_cons_zero->LC,size_toArray->Ll
open List.range renaming loop->MF
open Nat renaming add_mul->ML,le_refl->KS,le_succ->Mm,le_trans->KY,mul_assoc->Mc,mul_comm->LQ,mul_le_mul_right->LH,one_mul->Mo,reduceAdd->LD,reduceBEq->MZ,reduceEqDiff->Ms,reduceLT->M8,reduceSub->LF,zero_le->K8
open Option.some renaming inj->KQ
theorem zf (c:Cfg) (s:Ss) (w:World) (hs:SsAt w s) (ho:SsOk s) (hk:lW c=true) (hz:uh c s.ks.length=true) (hm:bF s=true) (hse:s.seg=c.seg):
  Calls prog 151 #[.agg c.row,.agg s.row] w fun r w'=>r= .returned (.bool (gY c s))/\Below w.heap.size w w':=by
 obtain⟨R,hR⟩:∃R,gY c s=R:=⟨_,rfl⟩
 rw[hR]
 have HR:=KO hR
 obtain⟨W0,hW0,hb0,b0,bs0⟩:=BL w c s
 have HW0:=KO hW0
 have HB0:=KO hb0
 have HC0:=KO b0
 have HS0:=KO bs0
 have HSA:=KO (hs.below hb0)
 have HOK:=KO ho
 have hci:=jv hk
 have hif:=aR hci ho.kl hz
 have hsg:=fG hm
 rw[hse]at hsg
 have hht:=fun W=>iw c s.ks.length c.seg.toNat W (by have:=hci.g;omega) (by have:=ho.kl;omega) (by have:=hci.g;omega) hif.2.2.2.2
 change ∀W,Calls _ _ _ W (fun r w'=>r= .returned (.int .i64 (aM c s.ks.length:Nat))/\_)at hht
 obtain⟨H,hH⟩:∃C,aM c s.ks.length=C:=⟨_,rfl⟩
 rw[hH]at hht hif
 have HHT:=KO hht
 have HHQ:=KO hH
 have HK:=KO hk
 have HZ:=KO hz
 have HMAY:=KO hm
 have HSEG:=KO hse
 have HCI:=KO hci
 have HIF:=KO hif
 have HSG:=KO hsg
 clear hR hW0 hb0 b0 bs0 hs ho hk hz hm hse hci hif hsg hht hH
 have r2:W0.cell? ⟨w.heap.size+1,2,none⟩=some (.slice s.kA s.ks.length s.kc):=HS0.out.cell 2
 go_enter func151,ntmps151
 go_upto_region 1 with fail
 rw[HW0.out]
 go_wp2_with fail
 clear r2
 go_loopw [6] (fun e wr=>∃h:Nat,h<=H+1/\e= .int .i64 h/\Hid (Below W0.heap.size W0 wr)/\Hid (∀j,j< h->rH c s j=true)) (fun e _=>H+1-(intOf e).toNat)
 case atStart=>exact⟨0,K8 _,rfl,KR _ _,fun j hj=>absurd hj (Nat.not_lt_zero j)⟩
 case round=>
  obtain⟨h,hh,rfl,hbr,hrow⟩:=hrel
  have hC:=HC0.out.below hbr.out HC0.out.lt
  have HHH:=KO hh
  have HC1:=KO hC
  obtain⟨i0,q0,q1,q2,q3,q4,q5,q6,q7,q8⟩:=iD hC
  clear hC hh
  go_wp2_with fail
  refine(HHT.out _).mono ?_
  rintro e w1 ⟨rfl,hb1⟩
  have HB1:=KO (aa hbr.out hb1)
  have HC2:=KO (HC1.out.below hb1 HC1.out.lt)
  clear hb1 q0 q1 q2 q3 q4 q5 q6 q7 q8 i0 HC1
  by_cases hlt:h< H+1
  ·have i1:(h:Int)<=(H:Int):=by omega
   have i1n:h<=H:=by omega
   obtain⟨G,hG⟩:∃G,c.seg.toNat=G:=⟨_,rfl⟩
   have hGi:c.seg=(G:Int):=by have:=HCI.out.g;omega
   obtain⟨Y,hY⟩:∃Y,G*2 ^ h=Y:=⟨_,rfl⟩
   obtain⟨K,hK⟩:∃K,s.ks.length/Y=K:=⟨_,rfl⟩
   have hnH:s.ks.length=G*2 ^ H:=by rw[<-hG];exact HIF.out.2.2.1
   have hY0:0< Y:=by rw[<-hY];exact Nat.mul_pos (by have:=HCI.out.g;omega) (Nat.two_pow_pos h)
   have hKY:K*Y=s.ks.length:=by
    have hd:Y ∣ s.ks.length:=by rw[hnH,<-hY];exact Nat.mul_dvd_mul_left _ (Nat.pow_dvd_pow 2 i1n)
    rw[<-hK];exact Nat.div_mul_cancel hd
   have hYn:Y<=300:=by
    have h1:Y<=G*2 ^ H:=by rw[<-hY];exact Nat.mul_le_mul_left _ (Nat.pow_le_pow_right (n:=2) (by decide) i1n)
    have:=HOK.out.kl;omega
   have HWI:=KO (fun W=>mJ c G h Y W hGi (by have:=HIF.out.2.2.2.1;omega) hY (by omega))
   have HG:=KO (KW hG (KW hGi (KW hY (KW hK (KW hY0 (KW hKY hYn))))))
   have HLT:=KO hlt
   have hw2:=aU h (by have:=HIF.out.2.2.2.1;omega)
   have HW2:=KO hw2
   clear hG hGi hY hK hnH hY0 hKY hYn hlt hw2
   obtain⟨i0,q0,q1,q2,q3,q4,q5,q6,q7,q8⟩:=iD HC2.out
   go_wp2_with fail
   refine(HWI.out _).mono ?_
   rintro e w4 ⟨rfl,hb4⟩
   have HB4:=KO (aa HB1.out hb4)
   have HC4:=KO (HC2.out.below hb4 HC2.out.lt)
   clear hb4 q0 q1 q2 q3 q4 q5 q6 q7 q8 i0 HC2
   go_wp2_with fail
   go_loopw [8] (fun e wr2=>∃i M:Nat,i<=K/\e= .int .i64 M/\Hid (M=i*Y)/\Hid (Below w4.heap.size w4 wr2)/\Hid (∀j,j< i->Bf c s h j=true)) (fun e _=>s.ks.length-(intOf e).toNat)
   case atStart=>exact⟨0,0,K8 _,rfl,(Nat.zero_mul _).symm,KR _ _,fun j hj=>absurd hj (Nat.not_lt_zero j)⟩
   case round=>
    obtain⟨i,M,hi,rfl,hMe,hbi,hwin⟩:=hrel
    by_cases hli:i< K
    ·obtain⟨hG,hGi,hY,hK,hY0,hKY,hYn⟩:=HG.out
     have hB5:=aa HB4.out hbi.out
     have hC5:=HC4.out.below hbi.out HC4.out.lt
     have hS5:=HS0.out.below hB5 HS0.out.lt
     obtain⟨T,hT⟩:∃T,i*Y+Y=T:=⟨_,rfl⟩
     have hM:=hMe.out
     have hMT:M+Y=T:=by rw[hM,hT]
     have hTn:T<=s.ks.length:=by
      rw[<-hT,<-hKY]
      have:=LH Y (show i+1<=K by omega)
      rwa [ML,Mo]at this
     have i2:(M:Int)< (s.ks.length:Int):=by omega
     have ham:=fun W (hW:Below w4.heap.size w4 W)=>pW s (i*2 ^ h) ((i+1)*2 ^ h) M T W (HSA.out.below (aa HB4.out hW)) HOK.out HMAY.out (LH _ (Mm _)) (by
       have hsg:=HSG.out
       rw[hG]at hsg
       have h1:((i+1)*2 ^ h)*G<=s.cs.length*G:=by
        rw[Mc,LQ (2 ^ h) G,hY,ML,Mo,hT,LQ s.cs.length,<-hsg.kl];exact hTn
       exact Nat.le_of_mul_le_mul_right h1 (by have:=hsg.g4;omega)) (by rw[HSEG.out,hG,Mc,LQ (2 ^ h) G,hY,hM]) (by rw[HSEG.out,hG,Mc,LQ (2 ^ h) G,hY,ML,Mo,hT])
     rw[show T-M=Y by omega]at ham
     have hcl:=eZ s.ws Y M
     have hfu:=fun W=>yt c s.ks.length h (bf s.ws M Y) W HK.out HOK.out.kl HZ.out (by rw[HHQ.out];have:=HLT.out;omega) (by rw[hG,hY];exact hcl)
     have hsp:=fun W=>Ar c s.ks.length h (bf s.ws M Y) W HK.out HOK.out.kl HZ.out (by rw[HHQ.out];have:=HLT.out;omega) (by rw[hG,hY];exact hcl)
     have hwb:Bf c s h i=(lZ c s.ks.length h (bf s.ws M Y)&&gI c s.ks.length h (bf s.ws M Y)):=by unfold Bf;rw[hG,hY,hM]
     obtain⟨C,hC⟩:∃C,bf s.ws M Y=C:=⟨_,rfl⟩
     rw[hC]at ham hfu hsp hwb
     obtain⟨FB,hFB⟩:∃b,lZ c s.ks.length h C=b:=⟨_,rfl⟩
     obtain⟨SB',hSB⟩:∃b,gI c s.ks.length h C=b:=⟨_,rfl⟩
     rw[hFB]at hfu hwb
     rw[hSB]at hsp hwb
     have HAM:=KO ham
     have HFU:=KO hfu
     have HSP:=KO hsp
     have HWB:=KO hwb
     have HBI:=KO hbi.out
     have HB5:=KO hB5
     have HLI:=KO (show i< K/\T=(i+1)*Y/\s.ks.length-T< s.ks.length-M by exact⟨hli,by rw[ML,Mo,hT],by omega⟩)
     have HC5:=KO hC5
     have hw3:IntKind.i64.wrap ((M:Int)+(Y:Int))=(T:Int):=by rw[IntWalk.i64_in _ (by have:=HOK.out.kl;omega)];omega
     clear ham hfu hsp hwb hC hFB hSB hcl hG hGi hY hK hY0 hKY hB5 hM hT hMT hTn hli hi hYn
     obtain⟨j0,r0,r1,r2,r3,r4,r5⟩:=EC hS5
     clear hC5 hS5
     go_wp2_with fail
     refine(HAM.out _ HBI.out).mono ?_
     rintro e w5 ⟨rfl,hb6⟩
     have HB6:=KO (aa HBI.out hb6)
     have HC6:=KO (HC5.out.below hb6 HC5.out.lt)
     clear hb6 r0 r1 r2 r3 r4 r5 j0 HC5 HBI i2
     obtain⟨i0,q0,q1,q2,q3,q4,q5,q6,q7,q8⟩:=iD HC6.out
     have hbad:(FB&&SB')=false->R=false:=fun hf=>by
      rw[<-HR.out]
      have h1:rH c s h=false:=by
       unfold rH
       rw[HG.out.1,HG.out.2.2.1,HG.out.2.2.2.1]
       exact jy HLI.out.1 (HWB.out.trans hf)
      unfold gY
      rw[HHQ.out]
      exact jy HLT.out h1
     have HBAD:=KO hbad
     clear hbad
     go_wp2_with fail
     refine(HFU.out _).mono ?_
     rintro e w6 ⟨rfl,hb7⟩
     have HB7:=KO (aa HB6.out hb7)
     have HC7:=KO (HC6.out.below hb7 HC6.out.lt)
     clear hb7 q0 q1 q2 q3 q4 q5 q6 q7 q8 i0 HC6 HB6
     obtain⟨i0,q0,q1,q2,q3,q4,q5,q6,q7,q8⟩:=iD HC7.out
     cases FB with
     |false=>
      obtain rfl:R=false:=HBAD.out (by first|rfl|trivial)
      go_wp2_with fail
      go_ret
      exact⟨rfl,aa HB0.out (aa HB4.out HB7.out)⟩
     |true=>
     go_wp2_with fail
     refine(HSP.out _).mono ?_
     rintro e w7 ⟨rfl,hb8⟩
     have HB8:=KO (aa HB7.out hb8)
     clear hb8 q0 q1 q2 q3 q4 q5 q6 q7 q8 i0 HC7 HB7
     cases SB' with
     |false=>
      obtain rfl:R=false:=HBAD.out (by first|rfl|trivial)
      go_wp2_with fail
      go_ret
      exact⟨rfl,aa HB0.out (aa HB4.out HB8.out)⟩
     |true=>
     go_wp2_with fail
     go_roundw
     case rel=>exact⟨i+1,T,HLI.out.1,rfl,HLI.out.2.1,HB8.out,fun j hj=>by
      rcases Nat.lt_succ_iff_lt_or_eq.1 hj with h'|h'
      ·exact hwin.out j h'
      ·rw[h',HWB.out];rfl⟩
     case measure=>have:=HLI.out.2.2;simp[intOf];omega
    ·have hiK:i=K:=by omega
     have i2:¬(M:Int)< (s.ks.length:Int):=by have:=HG.out.2.2.2.2.2.1;have:=hMe.out;rw[hiK]at this;omega
     have HRW:=KO (show rH c s h=true by
      unfold rH
      rw[HG.out.1,HG.out.2.2.1,HG.out.2.2.2.1]
      exact iW fun j hj=>hwin.out j (by omega))
     have HBI:=KO hbi.out
     clear hli hiK hi
     go_wp2_with fail
     go_roundw
     case rel=>exact⟨h+1,HLT.out,by rw[HW2.out],aa HB4.out HBI.out,fun j hj=>by
      rcases Nat.lt_succ_iff_lt_or_eq.1 hj with h'|h'
      ·exact hrow.out j h'
      ·rw[h'];exact HRW.out⟩
     case measure=>exact bT _ h HLT.out HW2.out
  ·have i1:¬(h:Int)<=(H:Int):=by omega
   have i1n:¬h<=H:=by omega
   obtain rfl:R=true:=by rw[<-HR.out];unfold gY;rw[HHQ.out];exact iW fun j hj=>hrow.out j (by omega)
   clear hlt
   go_wp2_with fail
   go_ret
   exact⟨rfl,aa HB0.out HB1.out⟩
theorem Em (c:Cfg) (s:Ss) (w:World) (hs:SsAt w s) (ho:SsOk s) (hk:lW c=true):
  Calls prog 130 #[.agg c.row,.agg s.row] w fun r w'=>r= .returned (.bool (ug c s))/\Below w.heap.size w w':=by
 obtain⟨W0,hW0,hb0,b0,bs0⟩:=BL w c s
 have HW0:=KO hW0
 have HB0:=KO hb0
 have HC0:=KO b0
 have HS0:=KO bs0
 have HSA:=KO (hs.below hb0)
 have HOK:=KO ho
 have hm4:=fun W (hW:Below W0.heap.size W0 W)=>uA s W ((hs.below hb0).below hW) ho
 have his:=fun W (_:Below W0.heap.size W0 W)=>FX c s.ks.length W hk ho.kl
 have hmn:=fun(hm:bF s=true) W (hW:Below W0.heap.size W0 W)=>zk s W ((hs.below hb0).below hW) ho hm
 have hde:=fun(hm:bF s=true) (hse:s.seg=c.seg) (hz:uh c s.ks.length=true) W (hW:Below W0.heap.size W0 W)=>zf c s W ((hs.below hb0).below hW) ho hk hz hm hse
 have hmg:ug c s=(uh c s.ks.length&&bF s&&decide (s.seg=c.seg)&&decide (((bf s.ws 0 s.ks.length:Nat):Int)<=c.most)&&gY c s):=rfl
 obtain⟨M,hM⟩:∃M,bF s=M:=⟨_,rfl⟩
 obtain⟨Z,hZ⟩:∃M,uh c s.ks.length=M:=⟨_,rfl⟩
 obtain⟨D,hD⟩:∃M,gY c s=M:=⟨_,rfl⟩
 obtain⟨N0,hN0⟩:∃N,bf s.ws 0 s.ks.length=N:=⟨_,rfl⟩
 obtain⟨V,hV⟩:∃V,ug c s=V:=⟨_,rfl⟩
 rw[hM]at hm4 hmn hde hmg
 rw[hZ]at his hde hmg
 rw[hD]at hde hmg
 rw[hN0]at hmn hmg
 rw[hV]at hmg ⊢
 have HM4:=KO hm4
 have HIS:=KO his
 have HMN:=KO hmn
 have HDE:=KO hde
 have HMG:=KO hmg
 have qc:=HC0.out.cell
 have qs:=HS0.out.cell
 have l0:=HC0.out.lt
 have l1:=HS0.out.lt
 clear hm4 his hmn hde hmg hM hZ hD hN0 hW0 hb0 b0 bs0 hs ho hk hV
 go_enter func130,ntmps130
 go_upto_region 1 with fail
 rw[HW0.out]
 go_cut [4]from 5 to 32 (fun v wx=>v= .bool V/\Below W0.heap.size W0 wx)
 case first=>
  cases M with
  |false=>
   obtain rfl:V=false:=by rw[HMG.out,Bool.and_false];rfl
   refine aK (by kernel_rfl) 29 [.v [] fun v=>v 0= .agg s.row,.v [0] fun v=>v 1= .bool false,.v [1] fun v=>v 2= .bool false,.v [2] fun v=>v 3=undef,.v [2] fun v=>v 4=undef,.v [2] fun v=>v 5=undef,.v [2] fun v=>v 6=undef,.v [2] fun v=>v 7=undef,.v [2,7] fun v=>v 8= .bool false,.v [8] fun v=>v 9= .bool false,.v [9] fun v=>v 10=undef,.v [9] fun v=>v 11=undef,.v [9] fun v=>v 12=undef,.v [9] fun v=>v 13=undef,.v [9] fun v=>v 14=undef,.v [9,14] fun v=>v 15= .bool false,.v [15] fun v=>v 16= .bool false,.v [16] fun v=>v 17=undef,.v [16] fun v=>v 18=undef,.v [16] fun v=>v 19=undef,.v [16] fun v=>v 20=undef,.v [16] fun v=>v 21=undef,.v [16,21] fun v=>v 22= .bool false,.v [22] fun v=>v 23= .bool false,.v [23] fun v=>v 24=undef,.v [23] fun v=>v 25=undef,.v [23] fun v=>v 26=undef,.v [23,26] fun v=>v 27= .bool false,.v [27] fun v=>v 28= .bool false] [28] rfl rfl (by kernel_rfl) (by kernel_rfl) ⟨_,fun v=>by simp only[ou,Act.put,Lg,LC,LK];rfl,?_⟩
   simp only[iQ,oZ,dO,dV,gT,nC,dX,Lt,MF,MK,Lb,La,TEnt.v,TEnt.w,RB,RM,MZ,M8,decide_true,decide_false,Mj,Ms,LD,LF,if_true,if_false,↓reduceIte,Ll,List.length_cons,List.length_nil]
   refine⟨?_,?_,?_,?_,?_,?_,?_,?_,?_,?_,?_,?_,?_,?_,?_,?_,?_,?_,?_,?_,?_,?_,?_,?_,?_,?_,?_,?_,?_,fun v W hb=>?_⟩
   all_goals try intro v W K hb hK
   all_goals have hc:=(aO hb).1
   all_goals try ((first|(intro a b;rw[a,b]at hK ⊢)|(intro a;rw[a]at hK ⊢)|skip);go_wp2_with fail;exact hK _ _ (KR _ _) rfl)
   ·intro h0
    rw[h0]at hK ⊢
    go_wp2_with (go_at_call 131;refine(HM4.out _ hb).mono ?_;rintro e1 W1 ⟨rfl,hb1⟩)
    exact hK _ _ hb1 rfl
   intro h28
   rw[h28]
   go_wp2_with fail
   go_meet
   exact⟨rfl,hb⟩
  |true=>
  have hmn:=HMN.out rfl
  have hde:=HDE.out rfl
  have HMN:=KO hmn
  clear hmn
  by_cases hse:s.seg=c.seg
  case neg=>
   obtain rfl:V=false:=by rw[HMG.out,decide_eq_false hse,Bool.and_false];rfl
   have hx:(s.seg==c.seg)=false:=by simp[hse]
   clear hse hde
   refine aK (by kernel_rfl) 29 [.v [] fun v=>v 0= .agg s.row,.v [0] fun v=>v 1= .bool true,.v [1] fun v=>v 2= .bool true,.v [2] fun v=>v 3= .pointer (some ⟨w.heap.size+1,0,none⟩),.v [2,3] fun v=>v 4= .int .i64 s.seg,.v [2] fun v=>v 5= .pointer (some ⟨w.heap.size,2,none⟩),.v [2,5] fun v=>v 6= .int .i64 c.seg,.v [2,4,6] fun v=>v 7= .bool false,.v [2,7] fun v=>v 8= .bool false,.v [8] fun v=>v 9= .bool false,.v [9] fun v=>v 10=undef,.v [9] fun v=>v 11=undef,.v [9] fun v=>v 12=undef,.v [9] fun v=>v 13=undef,.v [9] fun v=>v 14=undef,.v [9,14] fun v=>v 15= .bool false,.v [15] fun v=>v 16= .bool false,.v [16] fun v=>v 17=undef,.v [16] fun v=>v 18=undef,.v [16] fun v=>v 19=undef,.v [16] fun v=>v 20=undef,.v [16] fun v=>v 21=undef,.v [16,21] fun v=>v 22= .bool false,.v [22] fun v=>v 23= .bool false,.v [23] fun v=>v 24=undef,.v [23] fun v=>v 25=undef,.v [23] fun v=>v 26=undef,.v [23,26] fun v=>v 27= .bool false,.v [27] fun v=>v 28= .bool false] [28] rfl rfl (by kernel_rfl) (by kernel_rfl) ⟨_,fun v=>by simp only[ou,Act.put,Lg,LC,LK];rfl,?_⟩
   simp only[iQ,oZ,dO,dV,gT,nC,dX,Lt,MF,MK,Lb,La,TEnt.v,TEnt.w,RB,RM,MZ,M8,decide_true,decide_false,Mj,Ms,LD,LF,if_true,if_false,↓reduceIte,Ll,List.length_cons,List.length_nil]
   refine⟨?_,?_,?_,?_,?_,?_,?_,?_,?_,?_,?_,?_,?_,?_,?_,?_,?_,?_,?_,?_,?_,?_,?_,?_,?_,?_,?_,?_,?_,fun v W hb=>?_⟩
   all_goals try intro v W K hb hK
   all_goals have hc:=(aO hb).1
   all_goals try ((first|(intro a b c;rw[a,b,c]at hK ⊢)|(intro a b;rw[a,b]at hK ⊢)|(intro a;rw[a]at hK ⊢)|skip);go_wp2_with fail;exact hK _ _ (KR _ _) rfl)
   ·intro h0
    rw[h0]at hK ⊢
    go_wp2_with (go_at_call 131;refine(HM4.out _ hb).mono ?_;rintro e1 W1 ⟨rfl,hb1⟩)
    exact hK _ _ hb1 rfl
   intro h28
   rw[h28]
   go_wp2_with fail
   go_meet
   exact⟨rfl,hb⟩
  case pos=>
  have hx:(s.seg==c.seg)=true:=by simp[hse]
  have hde:=hde hse
  cases Z with
  |false=>
   obtain rfl:V=false:=HMG.out
   clear hse hde
   refine aK (by kernel_rfl) 29 [.v [] fun v=>v 0= .agg s.row,.v [0] fun v=>v 1= .bool true,.v [1] fun v=>v 2= .bool true,.v [2] fun v=>v 3= .pointer (some ⟨w.heap.size+1,0,none⟩),.v [2,3] fun v=>v 4= .int .i64 s.seg,.v [2] fun v=>v 5= .pointer (some ⟨w.heap.size,2,none⟩),.v [2,5] fun v=>v 6= .int .i64 c.seg,.v [2,4,6] fun v=>v 7= .bool true,.v [2,7] fun v=>v 8= .bool true,.v [8] fun v=>v 9= .bool true,.v [9] fun v=>v 10= .agg c.row,.v [9] fun v=>v 11= .pointer (some ⟨w.heap.size+1,2,none⟩),.v [9,11] fun v=>v 12= .slice s.kA s.ks.length s.kc,.v [9,12] fun v=>v 13= .int .i64 (s.ks.length:Nat),.v [9,10,13] fun v=>v 14= .bool false,.v [9,14] fun v=>v 15= .bool false,.v [15] fun v=>v 16= .bool false,.v [16] fun v=>v 17=undef,.v [16] fun v=>v 18=undef,.v [16] fun v=>v 19=undef,.v [16] fun v=>v 20=undef,.v [16] fun v=>v 21=undef,.v [16,21] fun v=>v 22= .bool false,.v [22] fun v=>v 23= .bool false,.v [23] fun v=>v 24=undef,.v [23] fun v=>v 25=undef,.v [23] fun v=>v 26=undef,.v [23,26] fun v=>v 27= .bool false,.v [27] fun v=>v 28= .bool false] [28] rfl rfl (by kernel_rfl) (by kernel_rfl) ⟨_,fun v=>by simp only[ou,Act.put,Lg,LC,LK];rfl,?_⟩
   simp only[iQ,oZ,dO,dV,gT,nC,dX,Lt,MF,MK,Lb,La,TEnt.v,TEnt.w,RB,RM,MZ,M8,decide_true,decide_false,Mj,Ms,LD,LF,if_true,if_false,↓reduceIte,Ll,List.length_cons,List.length_nil]
   refine⟨?_,?_,?_,?_,?_,?_,?_,?_,?_,?_,?_,?_,?_,?_,?_,?_,?_,?_,?_,?_,?_,?_,?_,?_,?_,?_,?_,?_,?_,fun v W hb=>?_⟩
   all_goals try intro v W K hb hK
   all_goals have hc:=(aO hb).1
   all_goals try ((first|(intro a b c;rw[a,b,c]at hK ⊢)|(intro a b;rw[a,b]at hK ⊢)|(intro a;rw[a]at hK ⊢)|skip);go_wp2_with fail;exact hK _ _ (KR _ _) rfl)
   ·intro h0
    rw[h0]at hK ⊢
    go_wp2_with (go_at_call 131;refine(HM4.out _ hb).mono ?_;rintro e1 W1 ⟨rfl,hb1⟩)
    exact hK _ _ hb1 rfl
   ·intro h9 h10 h13
    rw[h9,h10,h13]at hK ⊢
    go_wp2_with (go_at_call 149;refine(HIS.out _ hb).mono ?_;rintro e1 W1 ⟨rfl,hb1⟩)
    exact hK _ _ hb1 rfl
   intro h28
   rw[h28]
   go_wp2_with fail
   go_meet
   exact⟨rfl,hb⟩
  |true=>
  have HDE:=KO (hde rfl)
  clear hde
  by_cases hy:(N0:Int)<=c.most
  case neg=>
   obtain rfl:V=false:=by rw[HMG.out,decide_eq_false hy,Bool.and_false];rfl
   clear hse
   refine aK (by kernel_rfl) 29 [.v [] fun v=>v 0= .agg s.row,.v [0] fun v=>v 1= .bool true,.v [1] fun v=>v 2= .bool true,.v [2] fun v=>v 3= .pointer (some ⟨w.heap.size+1,0,none⟩),.v [2,3] fun v=>v 4= .int .i64 s.seg,.v [2] fun v=>v 5= .pointer (some ⟨w.heap.size,2,none⟩),.v [2,5] fun v=>v 6= .int .i64 c.seg,.v [2,4,6] fun v=>v 7= .bool true,.v [2,7] fun v=>v 8= .bool true,.v [8] fun v=>v 9= .bool true,.v [9] fun v=>v 10= .agg c.row,.v [9] fun v=>v 11= .pointer (some ⟨w.heap.size+1,2,none⟩),.v [9,11] fun v=>v 12= .slice s.kA s.ks.length s.kc,.v [9,12] fun v=>v 13= .int .i64 (s.ks.length:Nat),.v [9,10,13] fun v=>v 14= .bool true,.v [9,14] fun v=>v 15= .bool true,.v [15] fun v=>v 16= .bool true,.v [16] fun v=>v 17= .agg s.row,.v [16,17] fun v=>v 18= .int .i64 (N0:Nat),.v [16] fun v=>v 19= .pointer (some ⟨w.heap.size,1,none⟩),.v [16,19] fun v=>v 20= .int .i64 c.most,.v [16,18,20] fun v=>v 21= .bool false,.v [16,21] fun v=>v 22= .bool false,.v [22] fun v=>v 23= .bool false,.v [23] fun v=>v 24=undef,.v [23] fun v=>v 25=undef,.v [23] fun v=>v 26=undef,.v [23,26] fun v=>v 27= .bool false,.v [27] fun v=>v 28= .bool false] [28] rfl rfl (by kernel_rfl) (by kernel_rfl) ⟨_,fun v=>by simp only[ou,Act.put,Lg,LC,LK];rfl,?_⟩
   simp only[iQ,oZ,dO,dV,gT,nC,dX,Lt,MF,MK,Lb,La,TEnt.v,TEnt.w,RB,RM,MZ,M8,decide_true,decide_false,Mj,Ms,LD,LF,if_true,if_false,↓reduceIte,Ll,List.length_cons,List.length_nil]
   refine⟨?_,?_,?_,?_,?_,?_,?_,?_,?_,?_,?_,?_,?_,?_,?_,?_,?_,?_,?_,?_,?_,?_,?_,?_,?_,?_,?_,?_,?_,fun v W hb=>?_⟩
   all_goals try intro v W K hb hK
   all_goals have hc:=(aO hb).1
   all_goals try ((first|(intro a b c;rw[a,b,c]at hK ⊢)|(intro a b;rw[a,b]at hK ⊢)|(intro a;rw[a]at hK ⊢)|skip);go_wp2_with fail;exact hK _ _ (KR _ _) rfl)
   ·intro h0
    rw[h0]at hK ⊢
    go_wp2_with (go_at_call 131;refine(HM4.out _ hb).mono ?_;rintro e1 W1 ⟨rfl,hb1⟩)
    exact hK _ _ hb1 rfl
   ·intro h9 h10 h13
    rw[h9,h10,h13]at hK ⊢
    go_wp2_with (go_at_call 149;refine(HIS.out _ hb).mono ?_;rintro e1 W1 ⟨rfl,hb1⟩)
    exact hK _ _ hb1 rfl
   ·intro h16 h17
    rw[h16,h17]at hK ⊢
    go_wp2_with (go_at_call 150;refine(HMN.out _ hb).mono ?_;rintro e1 W1 ⟨rfl,hb1⟩)
    exact hK _ _ hb1 rfl
   intro h28
   rw[h28]
   go_wp2_with fail
   go_meet
   exact⟨rfl,hb⟩
  case pos=>
  obtain rfl:V=D:=by rw[HMG.out,decide_eq_true hy,decide_eq_true hse];rfl
  clear hse
  refine aK (by kernel_rfl) 29 [.v [] fun v=>v 0= .agg s.row,.v [0] fun v=>v 1= .bool true,.v [1] fun v=>v 2= .bool true,.v [2] fun v=>v 3= .pointer (some ⟨w.heap.size+1,0,none⟩),.v [2,3] fun v=>v 4= .int .i64 s.seg,.v [2] fun v=>v 5= .pointer (some ⟨w.heap.size,2,none⟩),.v [2,5] fun v=>v 6= .int .i64 c.seg,.v [2,4,6] fun v=>v 7= .bool true,.v [2,7] fun v=>v 8= .bool true,.v [8] fun v=>v 9= .bool true,.v [9] fun v=>v 10= .agg c.row,.v [9] fun v=>v 11= .pointer (some ⟨w.heap.size+1,2,none⟩),.v [9,11] fun v=>v 12= .slice s.kA s.ks.length s.kc,.v [9,12] fun v=>v 13= .int .i64 (s.ks.length:Nat),.v [9,10,13] fun v=>v 14= .bool true,.v [9,14] fun v=>v 15= .bool true,.v [15] fun v=>v 16= .bool true,.v [16] fun v=>v 17= .agg s.row,.v [16,17] fun v=>v 18= .int .i64 (N0:Nat),.v [16] fun v=>v 19= .pointer (some ⟨w.heap.size,1,none⟩),.v [16,19] fun v=>v 20= .int .i64 c.most,.v [16,18,20] fun v=>v 21= .bool true,.v [16,21] fun v=>v 22= .bool true,.v [22] fun v=>v 23= .bool true,.v [23] fun v=>v 24= .agg c.row,.v [23] fun v=>v 25= .agg s.row,.v [23,24,25] fun v=>v 26= .bool V,.v [23,26] fun v=>v 27= .bool V,.v [27] fun v=>v 28= .bool V] [28] rfl rfl (by kernel_rfl) (by kernel_rfl) ⟨_,fun v=>by simp only[ou,Act.put,Lg,LC,LK];rfl,?_⟩
  simp only[iQ,oZ,dO,dV,gT,nC,dX,Lt,MF,MK,Lb,La,TEnt.v,TEnt.w,RB,RM,MZ,M8,decide_true,decide_false,Mj,Ms,LD,LF,if_true,if_false,↓reduceIte,Ll,List.length_cons,List.length_nil]
  refine⟨?_,?_,?_,?_,?_,?_,?_,?_,?_,?_,?_,?_,?_,?_,?_,?_,?_,?_,?_,?_,?_,?_,?_,?_,?_,?_,?_,?_,?_,fun v W hb=>?_⟩
  all_goals try intro v W K hb hK
  all_goals have hc:=(aO hb).1
  all_goals try ((first|(intro a b c;rw[a,b,c]at hK ⊢)|(intro a b;rw[a,b]at hK ⊢)|(intro a;rw[a]at hK ⊢)|skip);go_wp2_with fail;exact hK _ _ (KR _ _) rfl)
  ·intro h0
   rw[h0]at hK ⊢
   go_wp2_with (go_at_call 131;refine(HM4.out _ hb).mono ?_;rintro e1 W1 ⟨rfl,hb1⟩)
   exact hK _ _ hb1 rfl
  ·intro h9 h10 h13
   rw[h9,h10,h13]at hK ⊢
   go_wp2_with (go_at_call 149;refine(HIS.out _ hb).mono ?_;rintro e1 W1 ⟨rfl,hb1⟩)
   exact hK _ _ hb1 rfl
  ·intro h16 h17
   rw[h16,h17]at hK ⊢
   go_wp2_with (go_at_call 150;refine(HMN.out _ hb).mono ?_;rintro e1 W1 ⟨rfl,hb1⟩)
   exact hK _ _ hb1 rfl
  ·intro h23 h24 h25
   rw[h23,h24,h25]at hK ⊢
   go_wp2_with (go_at_call 151;refine(HDE.out _ hb).mono ?_;rintro e1 W1 ⟨rfl,hb1⟩)
   exact hK _ _ hb1 rfl
  intro h28
  rw[h28]
  go_wp2_with fail
  go_meet
  exact⟨rfl,hb⟩
 case rest=>
 obtain⟨rfl,hb9⟩:=hcut
 have HB9:=KO (aa HB0.out hb9)
 clear hb9 qc qs l0 l1
 go_wp2_with fail
 go_ret
 exact⟨rfl,HB9.out⟩
theorem xI (c:Cfg) (s:Ss) (w:World) (hs:SsAt w s) (ho:SsOk s):
  Calls prog 112 #[.agg c.row,.agg s.row] w fun r w'=>r= .returned (.int .i64 (qp c s))/\Below w.heap.size w w':=by
 obtain⟨R,hR⟩:∃R,qp c s=R:=⟨_,rfl⟩
 rw[hR]
 unfold qp at hR
 have h5:=fun W=>uZ c W
 have h9:=fun(hk:lW c=true) W (h:SsAt W s)=>Em c s W h ho hk
 obtain⟨E,hE⟩:∃E,lW c=E:=⟨_,rfl⟩
 obtain⟨M,hM⟩:∃E,ug c s=E:=⟨_,rfl⟩
 rw[hE]at h5 h9 hR
 rw[hM]at h9 hR
 have H5:=KO h5
 have H9:=KO h9
 have HR:=KO hR
 obtain⟨W0,hW0,hb0,b0,bs0⟩:=BL w c s
 have HW0:=KO hW0
 have HB0:=KO hb0
 have HC0:=KO b0
 have HS0:=KO bs0
 have HSA:=KO (hs.below hb0)
 have HOK:=KO ho
 clear hE hM hR h5 h9 hW0 hb0 b0 bs0 hs ho
 obtain⟨i0,q0,q1,q2,q3,q4,q5,q6,q7,q8⟩:=iD HC0.out
 go_enter func112,ntmps112
 go_upto_region 1 with fail
 rw[HW0.out]
 go_wp2_with fail
 refine(H5.out _).mono ?_
 rintro e w1 ⟨rfl,hb1⟩
 have HB1:=KO (aa HB0.out hb1)
 have HC1:=KO (HC0.out.below hb1 HC0.out.lt)
 have HS1:=KO (HS0.out.below hb1 HS0.out.lt)
 have HSB:=KO (HSA.out.below hb1)
 clear hb1 q0 q1 q2 q3 q4 q5 q6 q7 q8 i0
 cases E with
 |false=>
  obtain rfl:R=50:=HR.out.symm
  go_wp2_with fail
  go_ret
  exact⟨rfl,HB1.out⟩
 |true=>
 obtain⟨i0,q0,q1,q2,q3,q4,q5,q6,q7,q8⟩:=iD HC1.out
 obtain⟨j0,r0,r1,r2,r3,r4,r5⟩:=EC HS1.out
 go_wp2_with fail
 refine(H9.out (by first|rfl|trivial) _ HSB.out).mono ?_
 rintro e w2 ⟨rfl,hb2⟩
 have HB2:=KO (aa HB1.out hb2)
 clear hb2 q0 q1 q2 q3 q4 q5 q6 q7 q8 i0 r0 r1 r2 r3 r4 r5 j0
 cases M with
 |false=>
  obtain rfl:R=8:=HR.out.symm
  go_wp2_with fail
  go_ret
  exact⟨rfl,HB2.out⟩
 |true=>
  obtain rfl:R=0:=HR.out.symm
  go_wp2_with fail
  go_ret
  exact⟨rfl,HB2.out⟩
section
open Go.Shelf
theorem JG (y:Nat) (hy:y< 18446744073709551616):decide (0< bits BinOp.and IntKind.u64 (y:Int) 1)=decide (y %2=1):=by
 rw[vY y hy]
 by_cases h:y %2=1
 ·rw[decide_eq_true h,decide_eq_true (by omega)]
 ·rw[decide_eq_false h,decide_eq_false (by omega)]
theorem G5 (A:Option Addr) (ws:List Nat) (c g k:Nat) (w:World) (h:w.cell? ⟨g,1,none⟩=some (.slice A ws.length c)) (hA:Sl w A (ws.map uw)) (hw:∀x∈ws,x< 18446744073709551616) (hl:ws.length<=300) (hk:k< 64*ws.length):
  Calls prog 219 #[.pointer (some ⟨g,0,none⟩),.int .i64 (k:Nat)] w fun r w'=>r= .returned (.bool (decide (fF ws k=1)))/\w'=w:=by
 have hlt3:k/64< ws.length:=by omega
 obtain⟨b1,o1,e1,hbl1,d1⟩:=hA.one (k/64) hlt3
 obtain⟨x,hx⟩:∃x,ws[k/64]'hlt3=x:=⟨_,rfl⟩
 obtain⟨K,hK⟩:∃K,k/64=K:=⟨_,rfl⟩
 obtain⟨m,hm⟩:∃m,k %64=m:=⟨_,rfl⟩
 have hbw:fF ws k=x/2 ^ (k %64) %2:=by unfold fF;rw[vD hlt3,hx]
 have hx64:x< 18446744073709551616:=by rw[<-hx];exact hw _ (List.getElem_mem hlt3)
 rw[hm]at hbw
 obtain⟨Y,hY⟩:∃Y,x/2 ^ m=Y:=⟨_,rfl⟩
 have hY64:Y< 18446744073709551616:=by rw[<-hY];exact Nat.lt_of_le_of_lt (Nat.div_le_self _ _) hx64
 rw[hY]at hbw
 rw[hbw]
 have i1:(k:Int) %64=(m:Int):=BR k m 64 hm
 rw[hx]at d1
 simp only[hK]at d1 hlt3
 rw[e1]at h
 have f1:w.cell? ⟨b1,o1+K,none⟩=some (.int .u64 (x:Nat)):=d1
 have i2:(0:Int)<=(K:Int):=by omega
 have i3:(K:Int)< (ws.length:Int):=by omega
 have i4:(0:Int)<=(k:Int):=by omega
 have hw0:wrap64 ((k:Int)/64)=(K:Int):=tC k K hK (by omega)
 have hq:=JG Y hY64
 have HYY:=KO hY
 have HM64:=KO (show m< 64 by rw[<-hm];exact Nat.mod_lt _ (by decide))
 clear hY hx64 hY64 hK hx hm hbw d1 e1 hk hlt3 hA hw hl
 go_enter func219,ntmps219
 repeat (first|(refine iK rfl (.tmp 13) (.tmp 15) _ rfl x m Y HM64.out rfl (by first|rfl|(show Value.int _ _=_;rw[i1])) HYY.out ?_)|go_values|go_skip|go_guarded|go_step|go_upon)
 go_ret
 exact⟨rfl,rfl⟩
structure PrAt (w:World) (B1 B2 B3:Nat) (s:Ss) (f t:Nat):Prop where
 c1:Blk w B1 3 #[.int .i64 (f:Nat)]
 c2:Blk w B2 3 #[.int .i64 (t:Nat)]
 c3:Blk w B3 29 s.row
 sw:Sl w s.wA (s.ws.map uw)
 sk:Sl w s.kA (s.ks.map iv)
 sv:Sl w s.vA (s.vs.map iv)
def Kn (A:Option Addr) (n:Nat) (b:Nat):Prop:=n≠0/\∃a,A=some a/\b=a.block
theorem Sl.ofK {α:Type} {w W:World} {A:Option Addr} {l:List α} {f:α->Value} (h:Sl w A (l.map f)) (hs:w.heap.size<=W.heap.size) (hk:∀b,Kn A l.length b->W.heap[b]?=w.heap[b]?):Sl W A (l.map f):=by
 by_cases h0l:l.length=0
 ·left;rw[List.eq_nil_of_length_eq_zero h0l];rfl
 rcases h with h1|⟨b,off,hA1,hlt,hc⟩
 ·exact .inl h1
 ·exact .inr ⟨b,off,hA1,Nat.lt_of_lt_of_le hlt hs,fun j u hu=>(World.cell?_of_block (a:=⟨b,off+j,none⟩) (hk b ⟨h0l,_,hA1,rfl⟩)).trans (hc j u hu)⟩
theorem zX {α:Type} {w:World} {A:Option Addr} {l:List α} {f:α->Value} (h:Sl w A (l.map f)) {b:Nat} (hb:Kn A l.length b):b< w.heap.size:=by
 obtain⟨h0,a,ha,rfl⟩:=hb
 rcases h with h1|⟨b,off,hA1,hlt,hc⟩
 ·exact absurd (by simpa using h1) (fun h=>h0 (by rw[h];rfl))
 ·rw[ha]at hA1;obtain rfl:=KQ hA1;exact hlt
def Ii (B1 B2 B3:Nat) (s:Ss) (b:Nat):Prop:=b=B1∨b=B2∨b=B3∨Kn s.wA s.ws.length b∨Kn s.kA s.ks.length b∨Kn s.vA s.vs.length b
theorem PrAt.of {w W:World} {B1 B2 B3:Nat} {s:Ss} {f t:Nat} (h:PrAt w B1 B2 B3 s f t) (hs:w.heap.size<=W.heap.size) (hk:∀b,Ii B1 B2 B3 s b->W.heap[b]?=w.heap[b]?):PrAt W B1 B2 B3 s f t:=
 ⟨(hk B1 (.inl rfl)).trans h.c1,(hk B2 (.inr (.inl rfl))).trans h.c2,(hk B3 (.inr (.inr (.inl rfl)))).trans h.c3,
 h.sw.ofK hs fun b hb=>hk b (.inr (.inr (.inr (.inl hb)))),h.sk.ofK hs fun b hb=>hk b (.inr (.inr (.inr (.inr (.inl hb))))),h.sv.ofK hs fun b hb=>hk b (.inr (.inr (.inr (.inr (.inr hb)))))⟩
theorem PrAt.lt {w:World} {B1 B2 B3:Nat} {s:Ss} {f t:Nat} (h:PrAt w B1 B2 B3 s f t) {b:Nat} (hb:Ii B1 B2 B3 s b):b< w.heap.size:=by
 rcases hb with rfl|rfl|rfl|hb|hb|hb
 ·exact h.c1.lt
 ·exact h.c2.lt
 ·exact h.c3.lt
 ·exact zX h.sw hb
 ·exact zX h.sk hb
 ·exact zX h.sv hb
def Kw (s:Ss) (f n k:Nat):Array Value:=#[.agg #[.int .i64 ((ma s f n).getD k ⟨0,0⟩).key,.int .i64 ((ma s f n).getD k ⟨0,0⟩).val]]
end
section
open Go.Shelf
attribute [local go_sem] Oper.semAt_some
theorem qQ (s:Ss) (f n:Nat):ma s f (n+1)=ma s f n++(if fF s.ws (f+n)=1 then[zU s (f+n)]else[]):=by
 unfold ma
 rw[p9,List.map_append]
 congr 1
 split <;> rfl
theorem Ct (s:Ss) (f:Nat):∀(m n:Nat),∃r,ma s f (n+m)=ma s f n++r
 |0,n=>⟨[],by simp⟩
 |m+1,n=>by
  obtain⟨r,hr⟩:=Ct s f m n
  exact⟨r++_,by rw[<-Nat.add_assoc,qQ,hr,Nc]⟩
theorem JC (s:Ss) (f n i:Nat) (hi:i< n) (hb:fF s.ws (f+i)=1):(ma s f i).length< (ma s f n).length/\(ma s f n).getD (ma s f i).length ⟨0,0⟩=zU s (f+i)/\(ma s f (i+1)).length=(ma s f i).length+1:=by
 obtain⟨m,rfl⟩:∃m,n=(i+1)+m:=⟨n-(i+1),by omega⟩
 obtain⟨r,hr⟩:=Ct s f m (i+1)
 have h1:=qQ s f i
 rw[if_pos hb]at h1
 rw[hr,h1]
 refine⟨by simp,?_,by simp⟩
 simp[Lf,Nc]
theorem Ie (s:Ss) (f i:Nat) (hb:¬fF s.ws (f+i)=1):(ma s f (i+1)).length=(ma s f i).length:=by
 rw[qQ,if_neg hb,List.append_nil]
theorem dN {P:Prop} (h:P:=by
  iterate 19 apply Exists.intro
  refine⟨rfl,?_,?_,?_,?_,?_,?_,?_,?_,?_,?_,?_,?_,?_,?_,?_,?_,?_,?_,?_,?_,?_,?_,?_,?_,?_,?_,?_,?_,?_,?_,?_,?_,?_,?_,?_,?_,?_⟩
  ·first|exact HW.out|exact fun _=>rfl|(intro h;refine absurd h ?_;simp;done;done)
  ·first|exact HY.out|exact fun _=>HPO.out|exact(fun h=>absurd (show L 15=true by simpa using h) (by rw[hlast];exact KP))
  ·first|exact F0.out|exact fun _=>rfl
  ·first|exact F1.out|exact fun _=>rfl
  ·first|exact fun _=>rfl|exact F2.out
  ·first|exact F3.out|exact fun _=>rfl
  ·first|exact F4.out|exact fun _=>rfl
  ·first|exact F5.out|exact fun _=>rfl
  ·first|exact F6.out|exact fun _=>rfl
  ·first|exact F7.out|exact fun _=>rfl
  ·first|exact F8.out|exact fun _=>rfl
  ·first|exact F9.out|exact fun _=>rfl
  ·first|exact F10.out|exact fun _=>rfl
  ·first|exact F11.out|exact fun _=>rfl
  ·first|exact F12.out|exact fun _=>rfl
  ·first|exact F13.out|exact fun _=>rfl
  ·first|exact F14.out|exact fun _=>rfl
  ·first|exact F15.out|exact fun _=>rfl
  ·first|exact F16.out|exact fun _=>rfl|exact(fun h=>absurd (show L 16=true by simpa using h) (by intro h;exact absurd ((C16.out h).1) (by rw[HLi.out];exact KP)))
  ·first|exact F17.out|exact fun _=>rfl|exact(fun h=>absurd (show L 17=true by simpa using h) (by intro h;exact absurd ((C16.out (C17.out h).2).1) (by rw[HLi.out];exact KP)))
  ·first|(intro h;have hh:=C1.out (by simpa using h);simp[hh];done)|(intro _;simp[hl0];done)
  ·first|(intro h;have hh:=C2.out (by simpa using h);simp[hh];done)|(intro _;simp[hl1];done)
  ·first|(intro h;have hh:=C3.out (by simpa using h);simp[hh];done)|(intro _;simp[hl2];done)
  ·first|(intro h;have hh:=C4.out (by simpa using h);simp[hh];done)|(intro _;simp[hl2];done)
  ·first|(intro h;have hh:=C5.out (by simpa using h);simp[hh];done)|(intro _;simp[hl4,hl2];done)
  ·first|(intro h;have hh:=C6.out (by simpa using h);simp[hh];done)|(intro _;simp[hl2];done)
  ·first|(intro h;have hh:=C7.out (by simpa using h);simp[hh];done)|(intro _;simp[hl5,hl6,hl2];done)
  ·first|(intro h;have hh:=C8.out (by simpa using h);simp[hh];done)|(intro _;simp[hl7,hl2];done)
  ·first|(intro h;have hh:=C9.out (by simpa using h);simp[hh];done)|(intro _;simp[hl2];done)
  ·first|(intro h;have hh:=C10.out (by simpa using h);simp[hh];done)|(intro _;simp[hl9,hl2];done)
  ·first|(intro h;have hh:=C11.out (by simpa using h);simp[hh];done)|(intro _;simp[hl2];done)
  ·first|(intro h;have hh:=C12.out (by simpa using h);simp[hh];done)|(intro _;simp[hl10,hl11,hl2];done)
  ·first|(intro h;have hh:=C13.out (by simpa using h);simp[hh];done)|(intro _;simp[hl12,hl2];done)
  ·first|(intro h;have hh:=C14.out (by simpa using h);simp[hh];done)|(intro _;simp[hl8,hl13,hl2];done)
  ·first|(intro h;have hh:=C15.out (by simpa using h);simp[hh];done)|(intro _;simp[hl3,hl14,hl2];done)
  ·first|(intro h;have hh:=C16.out (by simpa using h);simp[hh];done)|(intro _;simp[hl15,hl2];done)
  ·first|(intro h;have hh:=C17.out (by simpa using h);simp[hh];done)|(intro _;simp[hl2,hl16];done)):P:=h
theorem dM {P:Prop} (h:P:=by
  iterate 18 apply Exists.intro
  refine⟨rfl,?_,?_,?_,?_,?_,?_,?_,?_,?_,?_,?_,?_,?_,?_,?_,?_,?_,?_,?_,?_,?_,?_⟩
  ·first|exact HW.out|exact rfl
  ·first|exact F0.out|exact fun _=>rfl
  ·first|exact F1.out|exact fun _=>rfl
  ·first|exact fun _=>rfl|exact F2.out
  ·first|exact F17.out|exact fun _=>rfl
  ·first|(intro h;have hh:=C1.out (by simpa using h);simp[hh];done)|(intro _;simp[hl0];done)
  ·first|(intro h;have hh:=C2.out (by simpa using h);simp[hh];done)|(intro _;simp[hl1];done)
  ·first|(intro h;have hh:=C3.out (by simpa using h);simp[hh];done)|(intro _;simp[hl2];done)
  ·first|(intro h;have hh:=C4.out (by simpa using h);simp[hh];done)|(intro _;simp[hl2];done)
  ·first|(intro h;have hh:=C5.out (by simpa using h);simp[hh];done)|(intro _;simp[hl2];done)
  ·first|(intro h;have hh:=C6.out (by simpa using h);simp[hh];done)|(intro _;simp[hl2];done)
  ·first|(intro h;have hh:=C7.out (by simpa using h);simp[hh];done)|(intro _;simp[hl2];done)
  ·first|(intro h;have hh:=C8.out (by simpa using h);simp[hh];done)|(intro _;simp[hl2];done)
  ·first|(intro h;have hh:=C9.out (by simpa using h);simp[hh];done)|(intro _;simp[hl2];done)
  ·first|(intro h;have hh:=C10.out (by simpa using h);simp[hh];done)|(intro _;simp[hl2];done)
  ·first|(intro h;have hh:=C11.out (by simpa using h);simp[hh];done)|(intro _;simp[hl2];done)
  ·first|(intro h;have hh:=C12.out (by simpa using h);simp[hh];done)|(intro _;simp[hl2];done)
  ·first|(intro h;have hh:=C13.out (by simpa using h);simp[hh];done)|(intro _;simp[hl2];done)
  ·first|(intro h;have hh:=C14.out (by simpa using h);simp[hh];done)|(intro _;simp[hl2];done)
  ·first|(intro h;have hh:=C15.out (by simpa using h);simp[hh];done)|(intro _;simp[hl2];done)
  ·first|(intro h;have hh:=C16.out (by simpa using h);simp[hh];done)|(intro _;simp[hl2];done)
  ·first|(intro h;have hh:=C17.out (by simpa using h);simp[hh];done)|(intro _;simp[hl2];done)):P:=h
theorem Iz (B1 B2 B3:Nat) (s:Ss) (f n:Nat) (w:World) (hp:PrAt w B1 B2 B3 s f (f+n)) (ho:SsOk s) (hv:s.vs.length=s.ks.length) (hn:f+n<=s.ks.length) (hw:f+n<=64*s.ws.length):
  Yields Fence.wide prog 218 #[.pointer (some ⟨B1,0,none⟩),.pointer (some ⟨B2,0,none⟩),.pointer (some ⟨B3,0,none⟩)] (ma s f n).length (Kw s f n) (Ii B1 B2 B3 s) (fun _=>False) w:=by
 intro y I X W hsz hKp hI hX hY h0
 have hpW:=hp.of hsz hKp
 have hdd:∀k:Nat,(Fence.wide.depth.isSome=true->1<=k):=fun k h=>by cases h
 have hwf:∀f,Fence.wide.fn f:=fun _=>trivial
 have hdp:Fence.wide.depth=none:=rfl
 have hro:Fence.wide.round=none:=rfl
 have HH:=KO (KW hI (KW hX hY))
 have HP:=KO hpW
 have HN:=KO (KW ho (KW hv (KW hn hw)))
 obtain⟨T,hT⟩:∃T,f+n=T:=⟨_,rfl⟩
 have HT:=KO hT
 have c1:W.cell? ⟨B1,0,none⟩=some (.int .i64 (f:Nat)):=hpW.c1.cell 0
 rw[hT]at HP
 clear hI hX hY hKp hp hpW ho hv hn hw hT
 refine callsIn_of_wp func218 rfl (hwf _) ?_ hro
 simp only[ntmps218,Ll,List.length_cons,List.length_nil,LD,LF,Array.replicate_succ,Array.replicate_zero,Mq,Me,LA,Mr]
 gi_wp2
 gi_loopw [5] (fun e wr=>∃i k:Nat,i<=n/\e= .int .i64 ((f+i:Nat):Int)/\Hid (k=(ma s f i).length)/\I k wr/\Hid (PrAt wr B1 B2 B3 s f T)) (fun e _=>T-(intOf e).toNat)
 case atStart=>exact⟨0,0,K8 _,rfl,rfl,h0,HP.out⟩
 case round=>
  clear h0 c1
  obtain⟨i,k,hi,rfl,hk,hik,hpa⟩:=hrel
  have hp2:=hpa.out
  have d2:wr.cell? ⟨B2,0,none⟩=some (.int .i64 (T:Nat)):=hp2.c2.cell 0
  obtain⟨at0,hat⟩:∃a,f+i=a:=⟨_,rfl⟩
  rw[hat]
  by_cases hlt:i< n
  ·have i1:(at0:Int)< (T:Int):=by have:=HT.out;omega
   have d0:=hp2.c3.cell
   have HI:=KO hik
   have HP2:=KO hp2
   have HK:=KO hk
   clear hp2 hik
   gi_wp2
   obtain⟨g,hg⟩:∃g,wr.heap.size=g:=⟨_,rfl⟩
   obtain⟨A,hA⟩:∃A,wr.alloc (.cells s.row 258)=A:=⟨_,rfl⟩
   have hm1:Mod (fun _=>False) wr A.drew:=by rw[<-hA];exact((Mod.refl _ _).alloc _).drew
   have bA:Blk A g 258 s.row:=by rw[<-hA,<-hg];exact Blk.new _ _ _
   have hAI:∀b,b< wr.heap.size->A.drew.heap[b]?=wr.heap[b]?:=fun b hb=>hm1.block b hb id
   have hpA:=HP2.out.of hm1.size (fun b hb=>hAI b (HP2.out.lt hb))
   have HIA:=KO (HH.out.1 k wr A.drew HI.out hm1)
   rw[hg,hA]
   have hlt2:at0< s.ks.length:=by have:=HN.out.2.2.1;omega
   have hlt3:at0< s.vs.length:=by have:=HN.out.2.1;omega
   have his:=G5 s.wA s.ws s.wc g at0 A.drew (bA.cell 1) hpA.sw HN.out.1.w64 HN.out.1.wl (by have:=HN.out.2.2.2;omega)
   have HKA:=KO (show∀b,Ii B1 B2 B3 s b->A.drew.heap[b]?=wr.heap[b]? from fun b hb=>hAI b (HP2.out.lt hb))
   have HSA:=KO (show wr.heap.size<=A.drew.heap.size from hm1.size)
   have HPA:=KO hpA
   have hn9:at0<=300:=by have:=HN.out.1.kl;omega
   have HAT:=KO hat
   by_cases hb:fF s.ws at0=1
   ·rw[decide_eq_true hb]at his
    have HIS:=KO his
    obtain⟨h1,h2,h3⟩:=JC s f n i hlt (by rw[hat];exact hb)
    obtain⟨b2,o2,e2,hbl2,k2⟩:=hpA.sk.one at0 hlt2
    obtain⟨b3,o3,e3,hbl3,k3⟩:=hpA.sv.one at0 hlt3
    have HKN:=KO (show k< (ma s f n).length by rw[HK.out];exact h1)
    have HKP:=KO (show(ma s f n).getD k ⟨0,0⟩=zU s at0 by rw[HK.out,h2,hat])
    have HKS:=KO h3
    have HQ:=KO (show A.drew.cell? ⟨B3,2,none⟩=some (.slice (some ⟨b2,o2,none⟩) s.ks.length s.kc)/\A.drew.cell? ⟨b2,o2+at0,none⟩=some (.int .i64 (zU s at0).key)/\A.drew.cell? ⟨B3,3,none⟩=some (.slice (some ⟨b3,o3,none⟩) s.vs.length s.vc)/\A.drew.cell? ⟨b3,o3+at0,none⟩=some (.int .i64 (zU s at0).val)/\(at0:Int)< (s.ks.length:Int)/\(at0:Int)< (s.vs.length:Int)/\(0:Int)<=(at0:Int)from
     ⟨by rw[<-e2];exact hpA.c3.cell 2,by rw[k2];unfold zU;simp[iv,Lf,K7 hlt2],by rw[<-e3];exact hpA.c3.cell 3,by rw[k3];unfold zU;simp[iv,Lf,K7 hlt3],by omega,by omega,by omega⟩)
    clear h1 h2 h3 e2 e3 hbl2 hbl3 k2 k3 hb his bA hm1 hpA hA hAI hat hlt2 hlt3 d0 d2 i1 hg
    refine dY (by kernel_rfl) (by kernel_rfl) (fun L a W=>∃(t15 t16 t17 t18 t19 t20 t21 t22 t23 t24 t25 t26 t27 t28 t29 t30 t31 t32:Value) (bb:Bool),a=⟨#[.func (.yield y) #[] #[],.pointer (some ⟨B1,0,none⟩),.pointer (some ⟨B2,0,none⟩),.pointer (some ⟨B3,0,none⟩),undef,.int .i64 (at0:Nat),.pointer (some ⟨g,0,none⟩),.int .i64 (f:Nat),.int .i64 (at0:Nat),.int .i64 (T:Nat),.bool true,u11,u12,.agg s.row,.agg s.row,t15,t16,t17,t18,t19,t20,t21,t22,t23,t24,t25,t26,t27,t28,t29,t30,t31,t32],[]⟩/\(L 15=false->W=A.drew)/\(L 15=true->((bb=true/\I (k+1) W/\A.drew.heap.size<=W.heap.size/\∀q,Ii B1 B2 B3 s q->W.heap[q]?=A.drew.heap[q]?)∨(bb=false/\X W)))/\(L 0=true->t15= .int .i64 (at0:Nat))/\(L 1=true->t16= .bool true)/\(L 2=true->t17= .bool true)/\(L 3=true->t18= .func (.yield y) #[] #[])/\(L 4=true->t19= .pointer (some ⟨B3,2,none⟩))/\(L 5=true->t20= .slice (some ⟨b2,o2,none⟩) s.ks.length s.kc)/\(L 6=true->t21= .int .i64 (at0:Nat))/\(L 7=true->t22= .pointer (some ⟨b2,o2+at0,none⟩))/\(L 8=true->t23= .int .i64 (zU s at0).key)/\(L 9=true->t24= .pointer (some ⟨B3,3,none⟩))/\(L 10=true->t25= .slice (some ⟨b3,o3,none⟩) s.vs.length s.vc)/\(L 11=true->t26= .int .i64 (at0:Nat))/\(L 12=true->t27= .pointer (some ⟨b3,o3+at0,none⟩))/\(L 13=true->t28= .int .i64 (zU s at0).val)/\(L 14=true->t29= .agg #[.int .i64 (zU s at0).key,.int .i64 (zU s at0).val])/\(L 15=true->t30= .bool bb)/\(L 16=true->t31= .bool (!bb))/\(L 17=true->t32= .bool (!bb))/\(L 1=true->L 0=true)/\(L 2=true->L 1=true)/\(L 3=true->L 2=true)/\(L 4=true->L 2=true)/\(L 5=true->L 4=true/\L 2=true)/\(L 6=true->L 2=true)/\(L 7=true->L 5=true/\L 6=true/\L 2=true)/\(L 8=true->L 7=true/\L 2=true)/\(L 9=true->L 2=true)/\(L 10=true->L 9=true/\L 2=true)/\(L 11=true->L 2=true)/\(L 12=true->L 10=true/\L 11=true/\L 2=true)/\(L 13=true->L 12=true/\L 2=true)/\(L 14=true->L 8=true/\L 13=true/\L 2=true)/\(L 15=true->L 3=true/\L 14=true/\L 2=true)/\(L 16=true->L 15=true/\L 2=true)/\(L 17=true->L 2=true/\L 16=true)) ?h0 ?hstep ?hend
    case h0=>exact⟨u15,u16,u17,u18,u19,u20,u21,u22,u23,u24,u25,u26,u27,u28,u29,u30,u31,u32,true,rfl,fun _=>rfl,fun h=>absurd h KP,fun h=>absurd h KP,fun h=>absurd h KP,fun h=>absurd h KP,fun h=>absurd h KP,fun h=>absurd h KP,fun h=>absurd h KP,fun h=>absurd h KP,fun h=>absurd h KP,fun h=>absurd h KP,fun h=>absurd h KP,fun h=>absurd h KP,fun h=>absurd h KP,fun h=>absurd h KP,fun h=>absurd h KP,fun h=>absurd h KP,fun h=>absurd h KP,fun h=>absurd h KP,fun h=>absurd h KP,fun h=>absurd h KP,fun h=>absurd h KP,fun h=>absurd h KP,fun h=>absurd h KP,fun h=>absurd h KP,fun h=>absurd h KP,fun h=>absurd h KP,fun h=>absurd h KP,fun h=>absurd h KP,fun h=>absurd h KP,fun h=>absurd h KP,fun h=>absurd h KP,fun h=>absurd h KP,fun h=>absurd h KP,fun h=>absurd h KP,fun h=>absurd h KP,fun h=>absurd h KP⟩
    case hend=>
     rintro L a W hall ⟨t15,t16,t17,t18,t19,t20,t21,t22,t23,t24,t25,t26,t27,t28,t29,t30,t31,t32,bb,rfl,hw,hy,f0,f1,f2,f3,f4,f5,f6,f7,f8,f9,f10,f11,f12,f13,f14,f15,f16,f17,c1,c2,c3,c4,c5,c6,c7,c8,c9,c10,c11,c12,c13,c14,c15,c16,c17⟩
     have z0:=f0 (hall 0 (by decide))
     have z1:=f1 (hall 1 (by decide))
     have z2:=f2 (hall 2 (by decide))
     have z3:=f3 (hall 3 (by decide))
     have z4:=f4 (hall 4 (by decide))
     have z5:=f5 (hall 5 (by decide))
     have z6:=f6 (hall 6 (by decide))
     have z7:=f7 (hall 7 (by decide))
     have z8:=f8 (hall 8 (by decide))
     have z9:=f9 (hall 9 (by decide))
     have z10:=f10 (hall 10 (by decide))
     have z11:=f11 (hall 11 (by decide))
     have z12:=f12 (hall 12 (by decide))
     have z13:=f13 (hall 13 (by decide))
     have z14:=f14 (hall 14 (by decide))
     have z15:=f15 (hall 15 (by decide))
     have z16:=f16 (hall 16 (by decide))
     have z17:=f17 (hall 17 (by decide))
     have zy:=hy (hall 15 (by decide))
     clear hall hw hy f0 f1 f2 f3 f4 f5 f6 f7 f8 f9 f10 f11 f12 f13 f14 f15 f16 f17 c1 c2 c3 c4 c5 c6 c7 c8 c9 c10 c11 c12 c13 c14 c15 c16 c17
     obtain rfl:=z17
     rcases zy with⟨rfl,hi2,hs2,hk2⟩|⟨rfl,hx2⟩
     ·have HPB:=KO (HPA.out.of hs2 hk2)
      have HI2:=KO hi2
      clear hi2 hs2 hk2
      gi_wp2
      go_roundw
      case rel=>exact⟨i+1,k+1,by omega,by show _=_;have:=HAT.out;go_num,by show _=_;rw[HKS.out,HK.out],HI2.out,HPB.out⟩
      case measure=>have:=HAT.out;have:=HT.out;simp[intOf];omega
     ·have hx3:=hx2
      gi_wp2
      first|refine KV (L6 rfl _ _ _) rfl ?_|refine bodyPost_end (L6 rfl _ _ _) rfl ?_
      exact⟨⟨_,rfl⟩,.inr hx2⟩
    case hstep=>
     rintro L a W i o ho hLi hdep ⟨t15,t16,t17,t18,t19,t20,t21,t22,t23,t24,t25,t26,t27,t28,t29,t30,t31,t32,bb,rfl,hw,hy,f0,f1,f2,f3,f4,f5,f6,f7,f8,f9,f10,f11,f12,f13,f14,f15,f16,f17,c1,c2,c3,c4,c5,c6,c7,c8,c9,c10,c11,c12,c13,c14,c15,c16,c17⟩
     have HW:=KO hw
     have HY:=KO hy
     have F0:=KO f0
     have F1:=KO f1
     have F2:=KO f2
     have F3:=KO f3
     have F4:=KO f4
     have F5:=KO f5
     have F6:=KO f6
     have F7:=KO f7
     have F8:=KO f8
     have F9:=KO f9
     have F10:=KO f10
     have F11:=KO f11
     have F12:=KO f12
     have F13:=KO f13
     have F14:=KO f14
     have F15:=KO f15
     have F16:=KO f16
     have F17:=KO f17
     have C1:=KO c1
     have C2:=KO c2
     have C3:=KO c3
     have C4:=KO c4
     have C5:=KO c5
     have C6:=KO c6
     have C7:=KO c7
     have C8:=KO c8
     have C9:=KO c9
     have C10:=KO c10
     have C11:=KO c11
     have C12:=KO c12
     have C13:=KO c13
     have C14:=KO c14
     have C15:=KO c15
     have C16:=KO c16
     have C17:=KO c17
     clear hw hy f0 f1 f2 f3 f4 f5 f6 f7 f8 f9 f10 f11 f12 f13 f14 f15 f16 f17 c1 c2 c3 c4 c5 c6 c7 c8 c9 c10 c11 c12 c13 c14 c15 c16 c17
     have HLi:=KO hLi
     clear hLi
     match i,ho with
     |0,ho=>
      obtain rfl:=KQ ho
      clear hdep
      refine Le rfl (fun K1 hK1=>?_)
      have hK:=KO hK1
      clear hK1
      gi_wp2
      refine hK.out _ _ ?_;exact dN
     |1,ho=>
      obtain rfl:=KQ ho
      have hl0:=hdep ⟨0,.data⟩ (by simp) rfl
      obtain rfl:=F0.out hl0
      clear hdep
      have hlast:L 15=false:=by
       cases h:L 15 with
       |false=>rfl
       |true=>exact absurd ((C2.out (C15.out h).2.2)) (by rw[HLi.out];exact KP)
      have hWA:=HW.out hlast
      subst hWA
      refine Le rfl (fun K1 hK1=>?_)
      have hK:=KO hK1
      clear hK1
      have his:=HIS.out
      gi_wp2_with ((try first|refine⟨hdp,?_⟩|refine⟨hdd _,?_⟩);gi_at_call 219;refine(callsIn_wide.2 his).mono ?_;rintro e w1 ⟨rfl,hw1⟩)
      subst hw1
      refine hK.out _ _ ?_;exact dN
     |2,ho=>
      obtain rfl:=KQ ho
      have hl1:=hdep ⟨1,.data⟩ (by simp) rfl
      obtain rfl:=F1.out hl1
      clear hdep
      refine Le rfl (fun K1 hK1=>?_)
      have hK:=KO hK1
      clear hK1
      gi_wp2
      refine hK.out _ _ ?_;exact dN
     |3,ho=>
      obtain rfl:=KQ ho
      have hl2:=hdep ⟨2,.guard⟩ (by simp) rfl
      obtain rfl:=F2.out hl2
      clear hdep
      refine Le rfl (fun K1 hK1=>?_)
      have hK:=KO hK1
      clear hK1
      gi_wp2
      refine hK.out _ _ ?_;exact dN
     |4,ho=>
      obtain rfl:=KQ ho
      have hl2:=hdep ⟨2,.guard⟩ (by simp) rfl
      obtain rfl:=F2.out hl2
      clear hdep
      refine Le rfl (fun K1 hK1=>?_)
      have hK:=KO hK1
      clear hK1
      gi_wp2
      refine hK.out _ _ ?_;exact dN
     |5,ho=>
      obtain rfl:=KQ ho
      have hl4:=hdep ⟨4,.data⟩ (by simp) rfl
      obtain rfl:=F4.out hl4
      have hl2:=hdep ⟨2,.guard⟩ (by simp) rfl
      obtain rfl:=F2.out hl2
      clear hdep
      have hlast:L 15=false:=by
       cases h:L 15 with
       |false=>rfl
       |true=>exact absurd ((C7.out (C8.out (C14.out (C15.out h).2.1).1).1).1) (by rw[HLi.out];exact KP)
      have hWA:=HW.out hlast
      subst hWA
      refine Le rfl (fun K1 hK1=>?_)
      have hK:=KO hK1
      clear hK1
      have q:=HQ.out.1
      gi_wp2
      refine hK.out _ _ ?_;exact dN
     |6,ho=>
      obtain rfl:=KQ ho
      have hl2:=hdep ⟨2,.guard⟩ (by simp) rfl
      obtain rfl:=F2.out hl2
      clear hdep
      refine Le rfl (fun K1 hK1=>?_)
      have hK:=KO hK1
      clear hK1
      gi_wp2
      refine hK.out _ _ ?_;exact dN
     |7,ho=>
      obtain rfl:=KQ ho
      have hl5:=hdep ⟨5,.data⟩ (by simp) rfl
      obtain rfl:=F5.out hl5
      have hl6:=hdep ⟨6,.data⟩ (by simp) rfl
      obtain rfl:=F6.out hl6
      have hl2:=hdep ⟨2,.guard⟩ (by simp) rfl
      obtain rfl:=F2.out hl2
      clear hdep
      refine Le rfl (fun K1 hK1=>?_)
      have hK:=KO hK1
      clear hK1
      have q:=HQ.out.2.2.2.2.1
      have q9:=HQ.out.2.2.2.2.2.2
      gi_wp2
      refine hK.out _ _ ?_;exact dN
     |8,ho=>
      obtain rfl:=KQ ho
      have hl7:=hdep ⟨7,.data⟩ (by simp) rfl
      obtain rfl:=F7.out hl7
      have hl2:=hdep ⟨2,.guard⟩ (by simp) rfl
      obtain rfl:=F2.out hl2
      clear hdep
      have hlast:L 15=false:=by
       cases h:L 15 with
       |false=>rfl
       |true=>exact absurd ((C14.out (C15.out h).2.1).1) (by rw[HLi.out];exact KP)
      have hWA:=HW.out hlast
      subst hWA
      refine Le rfl (fun K1 hK1=>?_)
      have hK:=KO hK1
      clear hK1
      have q:=HQ.out.2.1
      gi_wp2
      refine hK.out _ _ ?_;exact dN
     |9,ho=>
      obtain rfl:=KQ ho
      have hl2:=hdep ⟨2,.guard⟩ (by simp) rfl
      obtain rfl:=F2.out hl2
      clear hdep
      refine Le rfl (fun K1 hK1=>?_)
      have hK:=KO hK1
      clear hK1
      gi_wp2
      refine hK.out _ _ ?_;exact dN
     |10,ho=>
      obtain rfl:=KQ ho
      have hl9:=hdep ⟨9,.data⟩ (by simp) rfl
      obtain rfl:=F9.out hl9
      have hl2:=hdep ⟨2,.guard⟩ (by simp) rfl
      obtain rfl:=F2.out hl2
      clear hdep
      have hlast:L 15=false:=by
       cases h:L 15 with
       |false=>rfl
       |true=>exact absurd ((C12.out (C13.out (C14.out (C15.out h).2.1).2.1).1).1) (by rw[HLi.out];exact KP)
      have hWA:=HW.out hlast
      subst hWA
      refine Le rfl (fun K1 hK1=>?_)
      have hK:=KO hK1
      clear hK1
      have q:=HQ.out.2.2.1
      gi_wp2
      refine hK.out _ _ ?_;exact dN
     |11,ho=>
      obtain rfl:=KQ ho
      have hl2:=hdep ⟨2,.guard⟩ (by simp) rfl
      obtain rfl:=F2.out hl2
      clear hdep
      refine Le rfl (fun K1 hK1=>?_)
      have hK:=KO hK1
      clear hK1
      gi_wp2
      refine hK.out _ _ ?_;exact dN
     |12,ho=>
      obtain rfl:=KQ ho
      have hl10:=hdep ⟨10,.data⟩ (by simp) rfl
      obtain rfl:=F10.out hl10
      have hl11:=hdep ⟨11,.data⟩ (by simp) rfl
      obtain rfl:=F11.out hl11
      have hl2:=hdep ⟨2,.guard⟩ (by simp) rfl
      obtain rfl:=F2.out hl2
      clear hdep
      refine Le rfl (fun K1 hK1=>?_)
      have hK:=KO hK1
      clear hK1
      have q:=HQ.out.2.2.2.2.2.1
      have q9:=HQ.out.2.2.2.2.2.2
      gi_wp2
      refine hK.out _ _ ?_;exact dN
     |13,ho=>
      obtain rfl:=KQ ho
      have hl12:=hdep ⟨12,.data⟩ (by simp) rfl
      obtain rfl:=F12.out hl12
      have hl2:=hdep ⟨2,.guard⟩ (by simp) rfl
      obtain rfl:=F2.out hl2
      clear hdep
      have hlast:L 15=false:=by
       cases h:L 15 with
       |false=>rfl
       |true=>exact absurd ((C14.out (C15.out h).2.1).2.1) (by rw[HLi.out];exact KP)
      have hWA:=HW.out hlast
      subst hWA
      refine Le rfl (fun K1 hK1=>?_)
      have hK:=KO hK1
      clear hK1
      have q:=HQ.out.2.2.2.1
      gi_wp2
      refine hK.out _ _ ?_;exact dN
     |14,ho=>
      obtain rfl:=KQ ho
      have hl8:=hdep ⟨8,.data⟩ (by simp) rfl
      obtain rfl:=F8.out hl8
      have hl13:=hdep ⟨13,.data⟩ (by simp) rfl
      obtain rfl:=F13.out hl13
      have hl2:=hdep ⟨2,.guard⟩ (by simp) rfl
      obtain rfl:=F2.out hl2
      clear hdep
      refine Le rfl (fun K1 hK1=>?_)
      have hK:=KO hK1
      clear hK1
      gi_wp2
      refine hK.out _ _ ?_;exact dN
     |15,ho=>
      obtain rfl:=KQ ho
      have hl3:=hdep ⟨3,.data⟩ (by simp) rfl
      obtain rfl:=F3.out hl3
      have hl14:=hdep ⟨14,.data⟩ (by simp) rfl
      obtain rfl:=F14.out hl14
      have hl2:=hdep ⟨2,.guard⟩ (by simp) rfl
      obtain rfl:=F2.out hl2
      clear hdep
      have hlast:=HLi.out
      have hWA:=HW.out hlast
      subst hWA
      refine Le rfl (fun K1 hK1=>?_)
      have hK:=KO hK1
      clear hK1
      have hY':=HH.out.2.2 k A.drew HKN.out HIA.out
      unfold Kw at hY'
      rw[HKP.out]at hY'
      obtain⟨fn,tmps,assign,body,hy,hR⟩:=hY'
      have HRR:=KO hR
      clear hR
      gi_wp2
      refine HRR.out.mono ?_
      clear HRR hy
      intro e W2 hpost
      obtain⟨b',hb',hpo2⟩:∃b':Bool,e= .returned (.bool b')/\((b'=true/\I (k+1) W2/\A.drew.heap.size<=W2.heap.size/\∀q,Ii B1 B2 B3 s q->W2.heap[q]?=A.drew.heap[q]?)∨(b'=false/\X W2)):=by
       rcases hpost with⟨rfl,h1,h2,h3⟩|⟨rfl,h1⟩
       ·exact⟨true,rfl,.inl ⟨rfl,h1,h2,h3⟩⟩
       ·exact⟨false,rfl,.inr ⟨rfl,h1⟩⟩
      subst hb'
      have HPO:=KO hpo2
      clear hpo2
      gi_wp2
      refine hK.out _ _ ?_;exact dN
     |16,ho=>
      obtain rfl:=KQ ho
      have hl15:=hdep ⟨15,.data⟩ (by simp) rfl
      obtain rfl:=F15.out hl15
      have hl2:=hdep ⟨2,.guard⟩ (by simp) rfl
      obtain rfl:=F2.out hl2
      clear hdep
      refine Le rfl (fun K1 hK1=>?_)
      have hK:=KO hK1
      clear hK1
      gi_wp2
      refine hK.out _ _ ?_;exact dN
     |17,ho=>
      obtain rfl:=KQ ho
      have hl2:=hdep ⟨2,.data⟩ (by simp) rfl
      obtain rfl:=F2.out hl2
      have hl16:=hdep ⟨16,.data⟩ (by simp) rfl
      obtain rfl:=F16.out hl16
      clear hdep
      refine Le rfl (fun K1 hK1=>?_)
      have hK:=KO hK1
      clear hK1
      gi_wp2
      refine hK.out _ _ ?_;exact dN
   ·rw[decide_eq_false hb]at his
    have HIS:=KO his
    have HKS:=KO (Ie s f i (by rw[hat];exact hb))
    clear hb his bA hm1 hpA hA hAI hat hlt2 hlt3 d0 d2 i1 hg
    refine dY (by kernel_rfl) (by kernel_rfl) (fun L a W=>∃(t15 t16 t17 t18 t19 t20 t21 t22 t23 t24 t25 t26 t27 t28 t29 t30 t31 t32:Value),a=⟨#[.func (.yield y) #[] #[],.pointer (some ⟨B1,0,none⟩),.pointer (some ⟨B2,0,none⟩),.pointer (some ⟨B3,0,none⟩),undef,.int .i64 (at0:Nat),.pointer (some ⟨g,0,none⟩),.int .i64 (f:Nat),.int .i64 (at0:Nat),.int .i64 (T:Nat),.bool true,u11,u12,.agg s.row,.agg s.row,t15,t16,t17,t18,t19,t20,t21,t22,t23,t24,t25,t26,t27,t28,t29,t30,t31,t32],[]⟩/\W=A.drew/\(L 0=true->t15= .int .i64 (at0:Nat))/\(L 1=true->t16= .bool false)/\(L 2=true->t17= .bool false)/\(L 17=true->t32= .bool false)/\(L 1=true->L 0=true)/\(L 2=true->L 1=true)/\(L 3=true->L 2=true)/\(L 4=true->L 2=true)/\(L 5=true->L 2=true)/\(L 6=true->L 2=true)/\(L 7=true->L 2=true)/\(L 8=true->L 2=true)/\(L 9=true->L 2=true)/\(L 10=true->L 2=true)/\(L 11=true->L 2=true)/\(L 12=true->L 2=true)/\(L 13=true->L 2=true)/\(L 14=true->L 2=true)/\(L 15=true->L 2=true)/\(L 16=true->L 2=true)/\(L 17=true->L 2=true)) ?h0 ?hstep ?hend
    case h0=>exact⟨u15,u16,u17,u18,u19,u20,u21,u22,u23,u24,u25,u26,u27,u28,u29,u30,u31,u32,rfl,rfl,fun h=>absurd h KP,fun h=>absurd h KP,fun h=>absurd h KP,fun h=>absurd h KP,fun h=>absurd h KP,fun h=>absurd h KP,fun h=>absurd h KP,fun h=>absurd h KP,fun h=>absurd h KP,fun h=>absurd h KP,fun h=>absurd h KP,fun h=>absurd h KP,fun h=>absurd h KP,fun h=>absurd h KP,fun h=>absurd h KP,fun h=>absurd h KP,fun h=>absurd h KP,fun h=>absurd h KP,fun h=>absurd h KP,fun h=>absurd h KP,fun h=>absurd h KP⟩
    case hend=>
     rintro L a W hall ⟨t15,t16,t17,t18,t19,t20,t21,t22,t23,t24,t25,t26,t27,t28,t29,t30,t31,t32,rfl,hw,f0,f1,f2,f17,c1,c2,c3,c4,c5,c6,c7,c8,c9,c10,c11,c12,c13,c14,c15,c16,c17⟩
     have z0:=f0 (hall 0 (by decide))
     have z1:=f1 (hall 1 (by decide))
     have z2:=f2 (hall 2 (by decide))
     have z17:=f17 (hall 17 (by decide))
     clear hall f0 f1 f2 f17 c1 c2 c3 c4 c5 c6 c7 c8 c9 c10 c11 c12 c13 c14 c15 c16 c17
     obtain rfl:=z17
     have hWA:=hw
     subst hWA
     gi_wp2
     go_roundw
     case rel=>exact⟨i+1,k,by omega,by show _=_;have:=HAT.out;go_num,by show _=_;rw[HKS.out];exact HK.out,HIA.out,HPA.out⟩
     case measure=>have:=HAT.out;have:=HT.out;simp[intOf];omega
    case hstep=>
     rintro L a W i o ho hLi hdep ⟨t15,t16,t17,t18,t19,t20,t21,t22,t23,t24,t25,t26,t27,t28,t29,t30,t31,t32,rfl,hw,f0,f1,f2,f17,c1,c2,c3,c4,c5,c6,c7,c8,c9,c10,c11,c12,c13,c14,c15,c16,c17⟩
     have HW:=KO hw
     have F0:=KO f0
     have F1:=KO f1
     have F2:=KO f2
     have F17:=KO f17
     have C1:=KO c1
     have C2:=KO c2
     have C3:=KO c3
     have C4:=KO c4
     have C5:=KO c5
     have C6:=KO c6
     have C7:=KO c7
     have C8:=KO c8
     have C9:=KO c9
     have C10:=KO c10
     have C11:=KO c11
     have C12:=KO c12
     have C13:=KO c13
     have C14:=KO c14
     have C15:=KO c15
     have C16:=KO c16
     have C17:=KO c17
     clear hw f0 f1 f2 f17 c1 c2 c3 c4 c5 c6 c7 c8 c9 c10 c11 c12 c13 c14 c15 c16 c17
     have HLi:=KO hLi
     clear hLi
     match i,ho with
     |0,ho=>
      obtain rfl:=KQ ho
      clear hdep
      refine Le rfl (fun K1 hK1=>?_)
      have hK:=KO hK1
      clear hK1
      gi_wp2
      refine hK.out _ _ ?_;exact dM
     |1,ho=>
      obtain rfl:=KQ ho
      have hl0:=hdep ⟨0,.data⟩ (by simp) rfl
      obtain rfl:=F0.out hl0
      clear hdep
      have hWA:=HW.out
      subst hWA
      refine Le rfl (fun K1 hK1=>?_)
      have hK:=KO hK1
      clear hK1
      have his:=HIS.out
      gi_wp2_with ((try first|refine⟨hdp,?_⟩|refine⟨hdd _,?_⟩);gi_at_call 219;refine(callsIn_wide.2 his).mono ?_;rintro e w1 ⟨rfl,hw1⟩)
      subst hw1
      refine hK.out _ _ ?_;exact dM
     |2,ho=>
      obtain rfl:=KQ ho
      have hl1:=hdep ⟨1,.data⟩ (by simp) rfl
      obtain rfl:=F1.out hl1
      clear hdep
      refine Le rfl (fun K1 hK1=>?_)
      have hK:=KO hK1
      clear hK1
      gi_wp2
      refine hK.out _ _ ?_;exact dM
     |3,ho=>
      obtain rfl:=KQ ho
      have hl2:=hdep ⟨2,.guard⟩ (by simp) rfl
      obtain rfl:=F2.out hl2
      clear hdep
      refine Le rfl (fun K1 hK1=>?_)
      have hK:=KO hK1
      clear hK1
      gi_wp2
      refine hK.out _ _ ?_;exact dM
     |4,ho=>
      obtain rfl:=KQ ho
      have hl2:=hdep ⟨2,.guard⟩ (by simp) rfl
      obtain rfl:=F2.out hl2
      clear hdep
      refine Le rfl (fun K1 hK1=>?_)
      have hK:=KO hK1
      clear hK1
      gi_wp2
      refine hK.out _ _ ?_;exact dM
     |5,ho=>
      obtain rfl:=KQ ho
      have hl2:=hdep ⟨2,.guard⟩ (by simp) rfl
      obtain rfl:=F2.out hl2
      clear hdep
      refine Le rfl (fun K1 hK1=>?_)
      have hK:=KO hK1
      clear hK1
      gi_wp2
      refine hK.out _ _ ?_;exact dM
     |6,ho=>
      obtain rfl:=KQ ho
      have hl2:=hdep ⟨2,.guard⟩ (by simp) rfl
      obtain rfl:=F2.out hl2
      clear hdep
      refine Le rfl (fun K1 hK1=>?_)
      have hK:=KO hK1
      clear hK1
      gi_wp2
      refine hK.out _ _ ?_;exact dM
     |7,ho=>
      obtain rfl:=KQ ho
      have hl2:=hdep ⟨2,.guard⟩ (by simp) rfl
      obtain rfl:=F2.out hl2
      clear hdep
      refine Le rfl (fun K1 hK1=>?_)
      have hK:=KO hK1
      clear hK1
      gi_wp2
      refine hK.out _ _ ?_;exact dM
     |8,ho=>
      obtain rfl:=KQ ho
      have hl2:=hdep ⟨2,.guard⟩ (by simp) rfl
      obtain rfl:=F2.out hl2
      clear hdep
      refine Le rfl (fun K1 hK1=>?_)
      have hK:=KO hK1
      clear hK1
      gi_wp2
      refine hK.out _ _ ?_;exact dM
     |9,ho=>
      obtain rfl:=KQ ho
      have hl2:=hdep ⟨2,.guard⟩ (by simp) rfl
      obtain rfl:=F2.out hl2
      clear hdep
      refine Le rfl (fun K1 hK1=>?_)
      have hK:=KO hK1
      clear hK1
      gi_wp2
      refine hK.out _ _ ?_;exact dM
     |10,ho=>
      obtain rfl:=KQ ho
      have hl2:=hdep ⟨2,.guard⟩ (by simp) rfl
      obtain rfl:=F2.out hl2
      clear hdep
      refine Le rfl (fun K1 hK1=>?_)
      have hK:=KO hK1
      clear hK1
      gi_wp2
      refine hK.out _ _ ?_;exact dM
     |11,ho=>
      obtain rfl:=KQ ho
      have hl2:=hdep ⟨2,.guard⟩ (by simp) rfl
      obtain rfl:=F2.out hl2
      clear hdep
      refine Le rfl (fun K1 hK1=>?_)
      have hK:=KO hK1
      clear hK1
      gi_wp2
      refine hK.out _ _ ?_;exact dM
     |12,ho=>
      obtain rfl:=KQ ho
      have hl2:=hdep ⟨2,.guard⟩ (by simp) rfl
      obtain rfl:=F2.out hl2
      clear hdep
      refine Le rfl (fun K1 hK1=>?_)
      have hK:=KO hK1
      clear hK1
      gi_wp2
      refine hK.out _ _ ?_;exact dM
     |13,ho=>
      obtain rfl:=KQ ho
      have hl2:=hdep ⟨2,.guard⟩ (by simp) rfl
      obtain rfl:=F2.out hl2
      clear hdep
      refine Le rfl (fun K1 hK1=>?_)
      have hK:=KO hK1
      clear hK1
      gi_wp2
      refine hK.out _ _ ?_;exact dM
     |14,ho=>
      obtain rfl:=KQ ho
      have hl2:=hdep ⟨2,.guard⟩ (by simp) rfl
      obtain rfl:=F2.out hl2
      clear hdep
      refine Le rfl (fun K1 hK1=>?_)
      have hK:=KO hK1
      clear hK1
      gi_wp2
      refine hK.out _ _ ?_;exact dM
     |15,ho=>
      obtain rfl:=KQ ho
      have hl2:=hdep ⟨2,.guard⟩ (by simp) rfl
      obtain rfl:=F2.out hl2
      clear hdep
      refine Le rfl (fun K1 hK1=>?_)
      have hK:=KO hK1
      clear hK1
      gi_wp2
      refine hK.out _ _ ?_;exact dM
     |16,ho=>
      obtain rfl:=KQ ho
      have hl2:=hdep ⟨2,.guard⟩ (by simp) rfl
      obtain rfl:=F2.out hl2
      clear hdep
      refine Le rfl (fun K1 hK1=>?_)
      have hK:=KO hK1
      clear hK1
      gi_wp2
      refine hK.out _ _ ?_;exact dM
     |17,ho=>
      obtain rfl:=KQ ho
      have hl2:=hdep ⟨2,.data⟩ (by simp) rfl
      obtain rfl:=F2.out hl2
      clear hdep
      refine Le rfl (fun K1 hK1=>?_)
      have hK:=KO hK1
      clear hK1
      gi_wp2
      refine hK.out _ _ ?_;exact dM
  ·have hin:i=n:=by omega
   have i1:¬(at0:Int)< (T:Int):=by have:=HT.out;omega
   have HI2:=KO hik
   have hk2:=hk.out
   rw[hin]at hk2
   rw[hk2]at HI2
   clear hik hat hk hk2 hin
   gi_wp2
   first|refine KV (L6 rfl _ _ _) rfl ?_|refine bodyPost_end (L6 rfl _ _ _) rfl ?_
   exact⟨⟨_,rfl⟩,.inl HI2.out⟩
end
section
open Go.Shelf
attribute [local go_sem] Oper.semAt_some
def yT (L:List Pr) (k:Nat):Pr:=L.getD k ⟨0,0⟩
theorem wJ (B1 B2 B3:Nat) (s:Ss) (f n:Nat) (w:World) (hp:PrAt w B1 B2 B3 s f (f+n)) (ho:SsOk s) (hv:s.vs.length=s.ks.length) (hn:f+n<=s.ks.length) (hw:f+n<=64*s.ws.length):
  Calls prog 217 #[.slice none 0 0,.func (.func 218) #[] #[.pointer (some ⟨B1,0,none⟩),.pointer (some ⟨B2,0,none⟩),.pointer (some ⟨B3,0,none⟩)]] w (dZ (ma s f n) w):=by
 refine bD (_F:=Fence.wide) ?_
 have hdd:∀k:Nat,(Fence.wide.depth.isSome=true->1<=k):=fun k h=>by cases h
 have hwf:∀f,Fence.wide.fn f:=fun _=>trivial
 have hdp:Fence.wide.depth=none:=rfl
 have hro:Fence.wide.round=none:=rfl
 obtain⟨ti0,hti⟩:=info_parts sK
 have HI:=KO hti
 have hl3:(ma s f n).length<=300:=by rw[qL,dU];have:=eZ s.ws n f;have:=ho.kl;omega
 have HK0:=KO (show∀b,Ii B1 B2 B3 s b->b< w.heap.size from fun b hb=>hp.lt hb)
 obtain⟨W0,hW0⟩:∃W0,w.alloc (.cells #[.slice none 0 0] 47)=W0:=⟨_,rfl⟩
 have hb0:Below w.heap.size w W0:=by rw[<-hW0];exact(KR _ _).alloc (KS _) _
 have b0:Blk W0 w.heap.size 47 #[.slice none 0 0]:=by rw[<-hW0];exact Blk.new _ _ _
 have hs0:W0.heap.size=w.heap.size+1:=by rw[<-hW0];simp
 have hp0:PrAt W0 B1 B2 B3 s f (f+n):=hp.of hb0.size (fun b hb=>hb0.block b (hp.lt hb))
 have hY:=Iz B1 B2 B3 s f n W0 hp0 ho hv hn hw
 obtain⟨L,hL⟩:∃L,ma s f n=L:=⟨_,rfl⟩
 have hpx:∀k,Kw s f n k=#[.agg #[.int .i64 (yT L k).key,.int .i64 (yT L k).val]]:=fun k=>by unfold Kw;rw[hL];rfl
 rw[hL]at hY hl3 ⊢
 have HPX:=KO hpx
 refine MV func217 rfl (hwf _) ?_ hro
 simp only[ntmps217,Ll,List.length_cons,List.length_nil,LD,LF,Array.replicate_succ,Array.replicate_zero,Mq,Me,LA,Mr]
 gi_wp2_with fail
 try rw[hW0]
 obtain⟨g,hg⟩:∃g,w.heap.size=g:=⟨_,rfl⟩
 rw[hg]at b0 hb0 hs0 ⊢
 have HKg:=KO (show∀b,Ii B1 B2 B3 s b->b< g from fun b hb=>by rw[<-hg];exact HK0.out b hb)
 have HG:=KO hg
 refine ng hdp hwf hro rfl (enters_of func218 (by kernel_rfl) rfl)
  hY (fun b hb=>by have:=HKg.out b hb;omega) (fun _ h=>h.elim) (fun _=>rfl)
  (fun k W=>∃A' c',Hid (Blk W g 47 #[.slice A' k c']/\W.ownsRow (g+3) 55 2 (.slice A' k c') k ((L.take k).flatMap Pr.cells)/\Below g w W))
  (fun _ _=>False) ?stab (fun _ _ _ h _=>h) ?start
  (fun k a' W=>∃gy,a'=⟨#[.slice none 0 0,.func (.func 218) #[] #[.pointer (some ⟨B1,0,none⟩),.pointer (some ⟨B2,0,none⟩),.pointer (some ⟨B3,0,none⟩)],.pointer (some ⟨g,0,none⟩),undef,.slice none 0 0,.pointer (some ⟨gy,0,none⟩),.func (.func 218) #[] #[.pointer (some ⟨B1,0,none⟩),.pointer (some ⟨B2,0,none⟩),.pointer (some ⟨B3,0,none⟩)],.agg #[.int .i64 (yT L k).key,.int .i64 (yT L k).val],undef,undef,undef,undef,undef],[]⟩/\Hid (Blk W gy 55 #[.int .i64 (yT L k).key,.int .i64 (yT L k).val]/\g+3<=gy))
  ?stabx ?assign ?body ?done (fun _ _ h _=>h.elim)
 case start=>exact⟨none,0,b0,Li _ _ _ _,hb0⟩
 case stab=>
  rintro k A1 B ⟨A',c',h⟩ hm
  obtain⟨h1,h2,h3⟩:=h.out
  exact⟨A',c',h1.mod hm (by simp;omega),di h2 hm (by intro k hk;simp;omega),h3.trans (hm.below (by have:=h1.lt;omega) (by rintro k (h|h|h) <;> first|exact h.elim|omega))⟩
 case stabx=>
  rintro k a' A1 B ⟨gy,rfl,h⟩ hm
  obtain⟨hy,hgy⟩:=h.out
  exact⟨gy,rfl,hy.mod hm (by simp;omega),hgy⟩
 case assign=>
  intro y k hk A1 C hi hsz hC
  rw[HPX.out]
  gi_wp2
  refine hC _ _ ((Mod.refl _ _).alloc _) ?_ ⟨A1.heap.size,rfl,Blk.new _ _ _,by omega⟩
  obtain⟨A',c',h⟩:=hi
  obtain⟨h1,h2,h3⟩:=h.out
  exact⟨A',c',h1.alloc _,h2.alloc _,h3.alloc (by omega) _⟩
 case body=>
  rintro y k hk a' A1 hi ⟨gy,rfl,hy⟩ hsz
  obtain⟨A',c',h⟩:=hi
  obtain⟨h1,h2,h3⟩:=h.out
  obtain⟨hyb,hgy⟩:=hy.out
  obtain⟨e,he⟩:∃e,yT L k=e:=⟨_,rfl⟩
  have hgt:L[k]'hk=e:=by rw[<-he];unfold yT;rw[Lf,K7 hk];rfl
  have htk:=oI hk
  rw[hgt]at htk
  rw[he]at hyb ⊢
  have HTK:=KO htk
  have y0:A1.cell? ⟨gy,0,none⟩=some (.int .i64 e.key):=hyb.cell 0
  have y1:A1.cell? ⟨gy,1,none⟩=some (.int .i64 e.val):=hyb.cell 1
  have cg:A1.cell? ⟨g,0,none⟩=some (.slice A' k c'):=h1.cell 0
  have HO:=KO h2
  have H1:=KO h1
  have H3:=KO h3
  have hg1:g< A1.heap.size:=h1.lt
  have hgz:gy< A1.heap.size:=hyb.lt
  have hkb:k<=300:=by omega
  have cf:A1.frozen? ⟨g,0,none⟩=false:=H1.out.frozen 0
  gi_wp2_with (gi_at_builtin;refine wpListIn_append_own _ rfl (.tmp 8) (.tmp 10) _ rfl (g+3) 55 ti0 _ 2 16 underlying47 HI.out.1 HI.out.2.1 HI.out.2.2.1 HI.out.2.2.2 rfl (by omega) (.slice A' k c') _ _ rfl (HO.out.alloc _) _ 1 _ [.int .i64 e.key,.int .i64 e.val] rfl (by simp) (by intro j u hu;rw[Addr.add_lit];exact((Blk.new A1 55 #[.int .i64 e.key,.int .i64 e.val]).cell (0+j)).trans (by simpa using hu)) (by simp[Value.oneCell']) (by unfold maxLen;omega) (by omega) (by simp;omega) ?_;intro v2 w2 hown2 hg2 _;obtain⟨A2,c2,rfl,-,-⟩:=ak hown2;have hm2:Mod (fun b=>g+3<=b) A1 w2:=((Mod.refl _ _).alloc _).grown hg2 (fun k hk=> .inl (HO.out.lt k hk).1);have h2:=H1.out.mod hm2 (by omega);have cg2:w2.cell? ⟨g,0,none⟩=some (.slice A' k c'):=h2.cell 0;have cf2:w2.frozen? ⟨g,0,none⟩=false:=h2.frozen 0)
  have HO2:=KO hown2
  have HM2:=KO hm2
  have H2:=KO h2
  have hfin:xL W0.heap.size (Ii B1 B2 B3 s) (fun W=>∃A' c',Hid (Blk W g 47 #[.slice A' (k+1) c']/\W.ownsRow (g+3) 55 2 (.slice A' (k+1) c') (k+1) ((L.take (k+1)).flatMap Pr.cells)/\Below g w W)) (fun _ _=>False) A1 .normal ⟨#[],[]⟩ (w2.setCell ⟨g,0,none⟩ (.slice A2 (k+1) c2)):=by
   refine⟨((HM2.out.mono (T:=fun b=>g<=b/\b≠W0.heap.size/\b≠W0.heap.size+1) (fun b _ hb=>by omega)).setCell (p:=⟨g,0,none⟩) (by show g<=g/\g≠_/\g≠_;omega) _).mono (fun b _ hb=>⟨hb.2.1,hb.2.2,fun hk=>by have:=HKg.out b hk;omega⟩),A2,c2,by simpa using H2.out.set_ 0 (.slice A2 (k+1) c2),?_,?_⟩
   ·rw[HTK.out];exact fe HO2.out (p:=⟨g,0,none⟩) (fun e=>by have:=(HO2.out.lt _ e).1;dsimp only at this;omega) _
   ·exact(H3.out.trans (HM2.out.below (by omega) (by intro k hk;omega))).setCell (p:=⟨g,0,none⟩) (by show g<=g;omega) _
  exact hfin
 case done=>
  rintro W ⟨A',c',h⟩ hD
  rw[List.take_of_length_le (KS _)]at h
  obtain⟨h1,h2,h3⟩:=h.out
  have hB6:Blk (W.putObj W0.heap.size (.deferred none)) g 47 #[.slice A' L.length c']:=h1.of (K9 (by omega))
  have e6:W.cell? ⟨g,0,none⟩=some (.slice A' L.length c'):=h1.cell 0
  have HO:=KO h2
  have HBB:=KO h3
  have HD2:=KO hD
  gi_wp2_with fail
  refine rP (v:= .slice A' L.length c') HD2.out (by simp[results,results217,go_sem]) ⟨A',c',rfl,?_,?_⟩
  ·rw[HG.out]
   exact av (di (Sx:=fun b=>b=W0.heap.size) HO.out (Mod.putObj (S:=fun b=>b=W0.heap.size) (Mod.refl _ _) rfl _) (fun k hk h=>by omega)) (by omega)
  ·rw[HG.out]
   exact HBB.out.trans ⟨rfl,rfl,rfl,by simp[World.putObj],fun k hk=>K9 (by omega)⟩
theorem tX (B1 B2 B3:Nat) (s:Ss) (f n:Nat) (w:World) (hp:PrAt w B1 B2 B3 s f (f+n)) (ho:SsOk s) (hv:s.vs.length=s.ks.length) (hn:f+n<=s.ks.length) (hw:f+n<=64*s.ws.length):
  Calls prog 204 #[.func (.func 218) #[] #[.pointer (some ⟨B1,0,none⟩),.pointer (some ⟨B2,0,none⟩),.pointer (some ⟨B3,0,none⟩)]] w (dZ (ma s f n) w):=by
 have HA:=KO (wJ B1 B2 B3 s f n w hp ho hv hn hw)
 go_enter func204,ntmps204
 go_wp2_with fail
 refine HA.out.mono ?_
 rintro e w1 ⟨A1,c1,rfl,h1,h2⟩
 have H1:=KO h1
 have H2:=KO h2
 go_wp2_with fail
 go_ret
 exact⟨A1,c1,rfl,H1.out,H2.out⟩
theorem yz (s:Ss) (f n:Nat) (w:World) (hs:SsAt w s):
  Calls prog 205 #[.agg s.row,.int .i64 (f:Nat),.int .i64 ((f+n:Nat):Int)] w fun r w'=>
   r= .returned (.func (.func 218) #[] #[.pointer (some ⟨w.heap.size+1,0,none⟩),.pointer (some ⟨w.heap.size+1+1,0,none⟩),.pointer (some ⟨w.heap.size,0,none⟩)])/\Below w.heap.size w w'/\PrAt w' (w.heap.size+1) (w.heap.size+1+1) w.heap.size s f (f+n):=by
 have HS:=KO hs
 obtain⟨T,hT⟩:∃T,f+n=T:=⟨_,rfl⟩
 rw[hT]
 go_enter func205,ntmps205
 go_wp2
 have hb:Below w.heap.size w (((w.alloc (.cells s.row 29)).alloc (.cells #[.int .i64 (f:Nat)] 3)).alloc (.cells #[.int .i64 (T:Nat)] 3)):=(((KR _ _).alloc (KS _) _).alloc (by simp) _).alloc (by simp;omega) _
 have b3:Blk (((w.alloc (.cells s.row 29)).alloc (.cells #[.int .i64 (f:Nat)] 3)).alloc (.cells #[.int .i64 (T:Nat)] 3)) w.heap.size 29 s.row:=((Blk.new w _ _).alloc _).alloc _
 have b1:Blk (((w.alloc (.cells s.row 29)).alloc (.cells #[.int .i64 (f:Nat)] 3)).alloc (.cells #[.int .i64 (T:Nat)] 3)) (w.heap.size+1) 3 #[.int .i64 (f:Nat)]:=by
  have:=Blk.new (w.alloc (.cells s.row 29)) 3 #[.int .i64 (f:Nat)]
  rw[KX]at this
  exact this.alloc _
 have b2:Blk (((w.alloc (.cells s.row 29)).alloc (.cells #[.int .i64 (f:Nat)] 3)).alloc (.cells #[.int .i64 (T:Nat)] 3)) (w.heap.size+1+1) 3 #[.int .i64 (T:Nat)]:=by
  have:=Blk.new ((w.alloc (.cells s.row 29)).alloc (.cells #[.int .i64 (f:Nat)] 3)) 3 #[.int .i64 (T:Nat)]
  rwa [KX,KX]at this
 go_ret
 exact⟨rfl,hb,b1,b2,b3,HS.out.words.below hb,HS.out.keys.below hb,HS.out.vals.below hb⟩
theorem DW (s:Ss) (f t:Nat) (w:World) (hs:SsAt w s) (ho:SsOk s) (hft:f<=t) (ht:t<=s.ks.length):
  Calls prog 203 #[.agg s.row,.int .i64 (f:Nat),.int .i64 (t:Nat)] w fun r w'=>r= .returned (.int .i64 (if bF s=true then 0 else 8))/\Below w.heap.size w w':=by
 obtain⟨W0,hW0,hb0,b0⟩:=Da w s
 have hch:=kI s W0 (hs.below hb0) ho
 obtain⟨M,hM⟩:∃M,bF s=M:=⟨_,rfl⟩
 rw[hM]at hch ⊢
 have HCH:=KO hch
 have HW0:=KO hW0
 have HB0:=KO hb0
 have HC0:=KO b0
 have i1:¬(f:Int)< 0:=by omega
 have i2:¬(t:Int)< (f:Int):=by omega
 have i3:¬(s.ks.length:Int)< (t:Int):=by omega
 have i4:¬t< f:=by omega
 have i5:¬s.ks.length< t:=by omega
 have HI:=KO (KW i1 (KW i2 (KW i3 (KW i4 i5))))
 clear hW0 hb0 hch hM hs ho hft ht i1 i2 i3 i4 i5
 obtain⟨i0,q0,q1,q2,q3,q4,q5⟩:=EC b0
 clear b0
 go_enter func203,ntmps203
 go_upto_region 1 with fail
 rw[HW0.out]
 go_wp2_with fail
 refine HCH.out.mono ?_
 rintro e w1 ⟨rfl,hb1⟩
 have HB1:=KO (aa HB0.out hb1)
 have bC1:=HC0.out.below hb1 HC0.out.lt
 clear hb1 q0 q1 q2 q3 q4 q5 i0 HW0 HB0 HC0 HCH
 obtain⟨i0,q0,q1,q2,q3,q4,q5⟩:=EC bC1
 clear bC1
 cases M with
 |false=>
  go_wp2_with fail
  go_ret
  exact⟨rfl,HB1.out⟩
 |true=>
  obtain⟨i1,i2,i3,i4,i5⟩:=HI.out
  go_wp2_with fail
  go_ret
  exact⟨rfl,HB1.out⟩
def fP (l:List Pr) (e:Int) (w:World) (r:Ending) (w':World):Prop:=∃A c,r= .returned (.tuple #[.slice A l.length c,.int .i64 e])/\w'.ownsRow w.heap.size 55 2 (.slice A l.length c) l.length (l.flatMap Pr.cells)/\Below w.heap.size w w'
theorem iC (s:Ss) (f n:Nat) (w:World) (hs:SsAt w s) (ho:SsOk s) (hn:f+n<=s.ks.length):
  Calls prog 195 #[.agg s.row,.int .i64 (f:Nat),.int .i64 ((f+n:Nat):Int)] w (fP (if bF s=true then ma s f n else[]) (if bF s=true then 0 else 8) w):=by
 obtain⟨W0,hW0,hb0,b0⟩:=Da w s
 have hch:=DW s f (f+n) W0 (hs.below hb0) ho (Nat.le_add_right _ _) hn
 have hit:=fun W (h:SsAt W s)=>yz s f n W h
 have hco:=fun(hm:bF s=true) B1 B2 B3 W (h:PrAt W B1 B2 B3 s f (f+n))=>tX B1 B2 B3 s f n W h ho (dL hm).1 hn (by have:=(dL hm).2.1;omega)
 obtain⟨M,hM⟩:∃M,bF s=M:=⟨_,rfl⟩
 obtain⟨L,hL⟩:∃M,ma s f n=M:=⟨_,rfl⟩
 rw[hM]at hch hco ⊢
 rw[hL]at hco ⊢
 obtain⟨LX,hLX⟩:∃x,(if M=true then L else[])=x:=⟨_,rfl⟩
 obtain⟨EX,hEX⟩:∃x:Int,(if M=true then(0:Int)else 8)=x:=⟨_,rfl⟩
 rw[hLX,hEX]
 have HLX:=KO hLX
 have HEX:=KO hEX
 have HCH:=KO hch
 have HIT:=KO hit
 have HCO:=KO hco
 have HW0:=KO hW0
 have HB0:=KO hb0
 have HC0:=KO b0
 have HS:=KO (hs.below hb0)
 clear hW0 hb0 hch hit hco hM hL hs ho hn hLX hEX
 obtain⟨i0,q0,q1,q2,q3,q4,q5⟩:=EC b0
 clear b0
 obtain⟨T,hT⟩:∃T,f+n=T:=⟨_,rfl⟩
 rw[hT]at HCH HIT HCO ⊢
 clear hT
 go_enter func195,ntmps195
 go_upto_region 1 with fail
 rw[HW0.out]
 go_wp2_with fail
 refine HCH.out.mono ?_
 rintro e w1 ⟨rfl,hb1⟩
 have HB1:=KO (aa HB0.out hb1)
 have bC1:=HC0.out.below hb1 HC0.out.lt
 have HS1:=KO (HS.out.below hb1)
 clear hb1 q0 q1 q2 q3 q4 q5 i0 HW0 HB0 HC0 HCH HS
 obtain⟨i0,q0,q1,q2,q3,q4,q5⟩:=EC bC1
 clear bC1
 cases M with
 |false=>
  go_wp2_with fail
  refine KV (v:= .tuple #[.slice none 0 0,.int .i64 8]) (by simp[results,results195,go_sem]) rfl ?_
  exact⟨none,0,by rw[<-HLX.out,<-HEX.out];rfl,by rw[<-HLX.out];exact Li _ _ _ _,HB1.out⟩
 |true=>
  go_wp2_with fail
  refine(HIT.out _ HS1.out).mono ?_
  rintro e w2 ⟨rfl,hb2,hp2⟩
  have HB2:=KO (aa HB1.out hb2)
  have HP2:=KO hp2
  clear hb2 hp2 q0 q1 q2 q3 q4 q5 i0
  go_wp2_with fail
  refine(HCO.out (by first|rfl|trivial) _ _ _ _ HP2.out).mono ?_
  rintro e w3 ⟨A1,c1,rfl,h1,h2⟩
  have H1:=KO (av h1 HB2.out.size)
  have H2:=KO (aa HB2.out h2)
  clear h1 h2
  go_wp2_with fail
  refine KV (v:= .tuple #[.slice A1 L.length c1,.int .i64 0]) (by simp[results,results195,go_sem]) rfl ?_
  exact⟨A1,c1,by rw[<-HLX.out,<-HEX.out];rfl,by rw[<-HLX.out];exact H1.out,H2.out⟩
end
theorem Jv {L:List Pr} {i j:Nat} (hi:i< L.length) (hj:j+1=i) (h:(L[i]'hi).key<=(L[j]'(by omega)).key):¬Ris L:=fun hr=>by
 have:=hr.get (i:=j) (j:=i) (by omega) hi
 omega
theorem G9 {L:List Pr} (h:∀i (hi:i+1< L.length),(L[i]'(by omega)).key< (L[i+1]'hi).key):Ris L:=by
 rw[vX]
 induction L with
 |nil=>exact List.Pairwise.nil
 |cons p l ih=>
  have ih2:=ih (fun i hi=>by have:=h (i+1) (by simpa using hi);simpa using this)
  rw[List.pairwise_cons]
  refine⟨fun q hq=>?_,ih2⟩
  cases l with
  |nil=>cases hq
  |cons r m=>
   have h0:=h 0 (by simp)
   simp at h0
   rcases List.mem_cons.1 hq with rfl|hq
   ·exact h0
   ·have:=(List.pairwise_cons.1 ih2).1 q hq
    omega
theorem mf (s:Ss) (w:World) (hs:SsAt w s) (ho:SsOk s):
  Calls prog 194 #[.agg s.row] w fun r w'=>r= .returned (.int .i64 (lU s))/\Below w.heap.size w w':=by
 obtain⟨R,hR⟩:∃R,lU s=R:=⟨_,rfl⟩
 rw[hR]
 unfold lU at hR
 obtain⟨W0,hW0,hb0,b0⟩:=Da w s
 have hpr:=iC s 0 s.ks.length W0 (hs.below hb0) ho (by omega)
 rw[Nat.zero_add]at hpr
 have hlen:(bE s).length<=300:=KY (lu s) ho.kl
 change Calls _ _ _ W0 (fP (if bF s=true then bE s else[]) _ W0)at hpr
 obtain⟨M,hM⟩:∃E,bF s=E:=⟨_,rfl⟩
 obtain⟨L,hL⟩:∃L,bE s=L:=⟨_,rfl⟩
 rw[hM,hL]at hpr hR
 rw[hL]at hlen
 have HPR:=KO hpr
 have HR:=KO hR
 have HLE:=KO hlen
 have HW0:=KO hW0
 have HB0:=KO hb0
 have HC0:=KO b0
 clear hR hpr hM hL hlen hW0 hb0 hs ho
 obtain⟨i0,q0,q1,q2,q3,q4,q5⟩:=EC b0
 clear b0
 go_enter func194,ntmps194
 go_upto_region 1 with fail
 rw[HW0.out]
 go_wp2_with fail
 cases M with
 |false=>
  have hpr:=HPR.out
  obtain rfl:R=8:=HR.out.symm
  refine hpr.mono ?_
  clear hpr
  rintro e w1 ⟨A1,c1,rfl,h1,h2⟩
  have HB1:=KO (aa HB0.out h2)
  clear h1 h2
  go_wp2_with fail
  go_ret
  exact⟨rfl,HB1.out⟩
 |true=>
 have hpr:=HPR.out
 have HR2:=KO (show(if Ris L then(0:Int)else 130)=R from HR.out)
 refine hpr.mono ?_
 clear hpr HPR HR
 rintro e w1 ⟨A1,c1,rfl,h1,h2⟩
 have HSL:=KO (aA h1)
 have HB1:=KO (aa HB0.out h2)
 clear h1 h2 q0 q1 q2 q3 q4 q5 i0
 simp only[if_pos]at HSL ⊢
 go_wp2_with fail
 go_loopw [20] (fun e wr=>∃i:Nat,i<=L.length/\e= .int .i64 i/\Hid (Below w1.heap.size w1 wr)/\Hid (∀j (hj:j+1< L.length),j+1< i->(L[j]'(by omega)).key< (L[j+1]'hj).key)) (fun e _=>L.length-(intOf e).toNat)
 case atStart=>exact⟨0,K8 _,rfl,KR _ _,fun j hj h=>absurd h (Nat.not_lt_zero _)⟩
 case round=>
  obtain⟨i,hi,rfl,hbr,hup⟩:=hrel
  by_cases hlt:i< L.length
  ·have i1:(i:Int)< (L.length:Int):=by omega
   have i2:(0:Int)<=(i:Int):=by omega
   obtain⟨b1,o1,e1,hbl,hc0,hc1⟩:=HSL.out.prB hbr.out i hlt
   obtain⟨p,hp⟩:∃p,L[i]'hlt=p:=⟨_,rfl⟩
   rw[hp]at hc0 hc1
   have hw3:=aU i (by have:=HLE.out;omega)
   obtain rfl:=e1
   have HW3:=KO hw3
   have HLT:=KO hlt
   have HP:=KO (show∀h:i< L.length,L[i]'h=p from fun _=>hp)
   have hbl2:b1< wr.heap.size:=Nat.lt_of_lt_of_le hbl hbr.out.size
   go_upto_region 7 with fail
   obtain⟨g,hg⟩:∃g,wr.heap.size=g:=⟨_,rfl⟩
   obtain⟨W5,hW5⟩:∃W,wr.alloc (.cells #[.int .i64 p.key,.int .i64 p.val] 55)=W:=⟨_,rfl⟩
   have hb5:Below wr.heap.size wr W5:=by rw[<-hW5];exact(KR _ _).alloc (KS _) _
   have k5:Blk W5 g 55 #[.int .i64 p.key,.int .i64 p.val]:=by rw[<-hW5,<-hg];exact Blk.new _ _ _
   have HB5:=KO (aa hbr.out hb5)
   have HC5:=KO (dE hb5).1
   rw[hg]at HC5 hbl2 ⊢
   rw[hW5]
   clear hW5 hb5 hc0 hc1 hlt hp hw3 hg hbl
   have g0:W5.cell? ⟨g,0,none⟩=some (.int .i64 p.key):=k5.cell 0
   clear k5
   by_cases hz:i=0
   ·subst hz
    have j1:decide ((0:Nat)< 0)=false:=by decide
    go_big_quiet (fail)
    go_wp2_with fail
    go_roundw
    case rel=>exact⟨1,HLT.out,rfl,aa HB5.out (ay (KR _ _) _),fun j hj h=>by omega⟩
    case measure=>have:=HLT.out;simp[intOf];omega
   ·obtain⟨j,hj⟩:∃j,j+1=i:=⟨i-1,by omega⟩
    obtain⟨b2,o2,e2,hbl3,hd0,-⟩:=HSL.out.prB hbr.out j (by have:=HLT.out;omega)
    cases e2
    obtain⟨q,hq⟩:∃q,(L[j]'(by have:=HLT.out;omega)).key=q:=⟨_,rfl⟩
    rw[hq]at hd0
    have g1:W5.cell? ⟨b1,o1+j*2,none⟩=some (.int .i64 q):=(HC5.out b1 _ hbl2).trans hd0
    have j1:decide (0< i)=true:=decide_eq_true (by omega)
    have j2:decide ((0:Int)< (i:Int))=true:=decide_eq_true (by omega)
    have j3:(0:Int)< (i:Int):=by omega
    have j4:(j:Int)< (L.length:Int):=by omega
    have j5:(0:Int)<=(j:Int):=by omega
    have hw4:IntKind.i64.wrap ((i:Int)-1)=(j:Int):=by rw[IntWalk.i64_in _ (by have:=HLE.out;omega)];omega
    have hw5:∀[Inhabited Nat],wrap64 ((i:Int)-1)=(j:Int):=by rw[IntWalk.wrap64_in _ (by have:=HLE.out;omega)];omega
    have HJ:=KO hj
    have HQ:=KO (show∀h:j< L.length,(L[j]'h).key=q from fun _=>hq)
    by_cases hle:p.key<=q
    ·obtain rfl:R=130:=by rw[<-HR2.out,if_neg (Jv HLT.out hj (by rw[HP.out HLT.out,hq];exact hle))]
     have hle2:decide (p.key<=q)=true:=decide_eq_true hle
     clear hd0 hj hq hi
     go_big_quiet (fail)
     go_wp2_with fail
     go_ret
     exact⟨rfl,aa HB1.out (aa HB5.out (ay (KR _ _) _))⟩
    ·have hle2:decide (p.key<=q)=false:=decide_eq_false hle
     have HNL:=KO hle
     clear hd0 hj hq hi
     go_big_quiet (fail)
     go_wp2_with fail
     go_roundw
     case rel=>exact⟨i+1,HLT.out,by rw[HW3.out],aa HB5.out (ay (KR _ _) _),fun k hk h=>by
      by_cases hki:k+1< i
      ·exact hup.out k hk hki
      ·have hkj:k=j:=by have:=HJ.out;omega
       subst hkj
       have h1:=HP.out HLT.out
       have h2:=HQ.out (by omega)
       have h3:=HNL.out
       simp only[<-HJ.out]at h1
       rw[h1,h2]
       omega⟩
     case measure=>exact bT _ i HLT.out HW3.out
  ·have i1:¬(i:Int)< (L.length:Int):=by omega
   obtain rfl:R=0:=by rw[<-HR2.out,if_pos (G9 fun j hj=>hup.out j hj (by omega))]
   have HBR:=KO hbr.out
   clear hlt hi
   go_wp2_with fail
   go_ret
   exact⟨rfl,aa HB1.out HBR.out⟩
def oU (rs:Lv):List Ent:=dD (bM (rs.map dx))
def zeroE:Ent:=⟨0,0,false⟩
theorem vP {rs:Lv}:(oU rs).length<=tot rs:=by
 unfold oU
 refine KY (gF _) ?_
 have h1:=jG (rs.map dx) []
 have h2:((rs.map dx).map List.length).sum=tot rs:=by
  unfold tot
  rw[List.map_map]
  congr 1
  refine List.map_congr_left fun l _=>?_
  simp[aG]
 rw[h2]at h1
 simpa[bM]using h1
section
open Go.Shelf
attribute [local go_sem] Oper.semAt_some
theorem lK {F:Fence} {P:Program} {fn:Func} {R:Ending->World->Prop} {tmps:Array Value} {D:Nat} {w:World} {v:Value}
  (hD:w.heap[D]?=some (.deferred (some []))) (hr:(results fn tmps).run P (w.putObj D (.deferred none))= .ok v (w.putObj D (.deferred none))) (hR:R (.returned v) (w.putObj D (.deferred none))):
  bodyPostM F 0 P fn R .ret {tmps:=tmps,defers:=[{target:= .collected D,args:=#[]}]} w:=
 ⟨by simp,.inl ⟨_,_,rfl,run_takeDeferred hD,⟨_,hr,hR⟩⟩⟩
theorem tY (n x y k:Nat) (w:World) (hn:n<=65536) (hx:(ai n 0)[k]?=some x) (hy:(ai n 0)[k+1]?=some y):
  Calls prog 292 #[.int .i64 (n:Nat),.int .i64 (x:Nat)] w fun r w'=>r= .returned (.tuple #[.int .i64 (y:Nat),.int .i64 0])/\w=w':=by
 have hxn:=eU (M7 hx)
 have H:=KO (sG hx hy)
 have hy1:((y:Int)==-1)=false:=beq_eq_false_iff_ne.2 (by omega)
 clear hx hy
 go_enter func292,ntmps292
 go_wp2_with fail
 refine(oM n x _ hn hxn).mono ?_
 rintro e w1 ⟨rfl,rfl⟩
 go_wp2_with fail
 refine(jE n x _ _ rfl rfl hn hxn _).mono ?_
 rw[H.out]
 rintro e w2 ⟨rfl,rfl⟩
 go_wp2
 refine KV (v:= .tuple #[.int .i64 (y:Nat),.int .i64 0]) (by simp[results,results292,go_sem]) rfl ?_
 exact⟨rfl,rfl⟩
theorem ut (n x k:Nat) (w:World) (hn:n<=65536) (hx:(ai n 0)[k]?=some x) (hy:(ai n 0)[k+1]?=none):
  Calls prog 292 #[.int .i64 (n:Nat),.int .i64 (x:Nat)] w fun r w'=>r= .returned (.tuple #[.int .i64 0,.int .i64 6])/\w=w':=by
 have hxn:=eU (M7 hx)
 have H:=KO (rV hx hy)
 clear hx hy
 go_enter func292,ntmps292
 go_wp2_with fail
 refine(oM n x _ hn hxn).mono ?_
 rintro e w1 ⟨rfl,rfl⟩
 go_wp2_with fail
 refine(jE n x _ _ rfl rfl hn hxn _).mono ?_
 rw[H.out]
 rintro e w2 ⟨rfl,rfl⟩
 go_wp2
 refine KV (v:= .tuple #[.int .i64 0,.int .i64 6]) (by simp[results,results292,go_sem]) rfl ?_
 exact⟨rfl,rfl⟩
theorem zI (w:World):
  Calls prog 283 #[.int .i64 0,.int .i64 0] w fun r w'=>r= .returned (.tuple #[.int .i64 0,.int .i64 2])/\Below w.heap.size w w':=by
 refine bD (_F:=Fence.wide) ?_
 have hdd:∀k:Nat,(Fence.wide.depth.isSome=true->1<=k):=fun k h=>by cases h
 have hwf:∀f,Fence.wide.fn f:=fun _=>trivial
 have hdp:Fence.wide.depth=none:=rfl
 have hro:Fence.wide.round=none:=rfl
 have hwz:∀W:World,Calls prog 290 #[.int .i64 0,.int .i64 0] W fun r w'=>r= .returned (.int .i64 2)/\W=w':=by
  intro W
  have H0:Hid (mG (0:Nat)=0):=rfl
  go_enter func290,ntmps290
  go_wp2_with fail
  refine(o9 (0:Nat) _).mono ?_
  rw[H0.out]
  rintro e w1 ⟨rfl,rfl⟩
  go_wp2
  go_ret
  exact⟨rfl,rfl⟩
 refine MV func283 rfl (hwf _) ?_ hro
 simp only[ntmps283,Ll,List.length_cons,List.length_nil,LD,LF,Array.replicate_succ,Array.replicate_zero,Mq,Me,LA,Mr]
 gi_wp2_with ((try first|refine⟨hdp,?_⟩|refine⟨hdd _,?_⟩);gi_at_call 290;refine(callsIn_wide.2 (hwz _)).mono ?_;rintro e w1 ⟨rfl,rfl⟩)
 refine⟨.tuple #[.int .i64 0,.int .i64 2],by simp[results,results283,go_sem],rfl,?_⟩
 exact(((KR _ _).alloc (KS _) _).alloc (by simp) _).alloc (by simp;omega) _
theorem E8 (n k:Nat) (hn:n<=65536) (hk:k< n) (w:World):
  Calls prog 283 #[.int .i64 (n:Nat),.int .i64 (k:Nat)] w fun r w'=>r= .returned (.tuple #[.int .i64 ((ai n 0).getD k 0:Nat),.int .i64 0])/\Below w.heap.size w w':=by
 obtain⟨at_,hat⟩:∃at_,(ai n 0).getD k 0=at_:=⟨_,rfl⟩
 rw[hat]
 have HAT:=KO hat
 clear hat
 refine bD (_F:=Fence.wide) ?_
 have hdd:∀k:Nat,(Fence.wide.depth.isSome=true->1<=k):=fun k h=>by cases h
 have hwf:∀f,Fence.wide.fn f:=fun _=>trivial
 have hdp:Fence.wide.depth=none:=rfl
 have hro:Fence.wide.round=none:=rfl
 refine MV func283 rfl (hwf _) ?_ hro
 simp only[ntmps283,Ll,List.length_cons,List.length_nil,LD,LF,Array.replicate_succ,Array.replicate_zero,Mq,Me,LA,Mr]
 gi_wp2_with (first
  |((try first|refine⟨hdp,?_⟩|refine⟨hdd _,?_⟩);gi_at_call 290;refine(callsIn_wide.2 (oM n k _ hn hk)).mono ?_;rintro e w1 ⟨rfl,rfl⟩)
  |((try first|refine⟨hdp,?_⟩|refine⟨hdd _,?_⟩);gi_at_call 289;refine(callsIn_wide.2 (qP _ _)).mono ?_;rintro e w1 ⟨rfl,rfl⟩))
 obtain⟨g,hg⟩:∃g,w.heap.size=g:=⟨_,rfl⟩
 obtain⟨W0,hW0⟩:∃W0,((((w.alloc (.cells #[.int .i64 (k:Nat)] 3)).alloc (.cells #[.int .i64 0] 3)).alloc (.cells #[.int .i64 0] 48)).alloc (.cells #[.int .i64 (n:Nat)] 3))=W0:=⟨_,rfl⟩
 rw[hW0]
 have b0:Blk W0 w.heap.size 3 #[.int .i64 (k:Nat)]:=by rw[<-hW0];exact(((Blk.new w _ _).alloc _).alloc _).alloc _
 have b1:Blk W0 (w.heap.size+1) 3 #[.int .i64 0]:=by
  rw[<-hW0];have:=Blk.new (w.alloc (.cells #[.int .i64 (k:Nat)] 3)) 3 #[.int .i64 0]
  rw[KX]at this
  exact(this.alloc _).alloc _
 have b2:Blk W0 (w.heap.size+1+1) 48 #[.int .i64 0]:=by
  rw[<-hW0];have:=Blk.new ((w.alloc (.cells #[.int .i64 (k:Nat)] 3)).alloc (.cells #[.int .i64 0] 3)) 48 #[.int .i64 0]
  rw[KX,KX]at this
  exact this.alloc _
 have b3:Blk W0 (w.heap.size+1+1+1) 3 #[.int .i64 (n:Nat)]:=by
  rw[<-hW0];have:=Blk.new (((w.alloc (.cells #[.int .i64 (k:Nat)] 3)).alloc (.cells #[.int .i64 0] 3)).alloc (.cells #[.int .i64 0] 48)) 3 #[.int .i64 (n:Nat)]
  rwa [KX,KX,KX]at this
 have hb0:Below w.heap.size w W0:=by
  rw[<-hW0];exact((((KR _ w).alloc (KS _) _).alloc (by simp) _).alloc (by simp;omega) _).alloc (by simp;omega) _
 have hs0:W0.heap.size=w.heap.size+4:=by rw[<-hW0];simp
 clear hW0
 rw[hg]at b0 b1 b2 b3 hb0 hs0 ⊢
 refine kG hdp hwf hro rfl (enters_of func296 (by kernel_rfl) rfl)
  (si n (g+1+1+1) hn W0 (b3.cell 0)) (by rintro b rfl;omega) (fun _ h=>h.elim) (fun _=>rfl)
  (fun j W=>j<=k/\Blk W g 3 #[.int .i64 (k:Nat)]/\Blk W (g+1) 3 #[.int .i64 0]/\Blk W (g+1+1) 48 #[.int .i64 0]/\Below g w W)
  (fun c W=>c= .ret/\Blk W (g+1) 3 #[.int .i64 (at_:Nat)]/\Blk W (g+1+1) 48 #[.int .i64 0]/\Below g w W)
  (fun j=>[(17,.int .i64 (j:Nat)),(18,.int .i64 ((ai n 0).getD j 0:Nat)),(7,.int .i64 (j:Nat)),(8,.int .i64 ((ai n 0).getD j 0:Nat))])
  ?stab ?stabx ⟨K8 _,b0,b1,b2,hb0⟩ ?assign ?body ?done ?stop
 case stab=>
  rintro j A B ⟨hj,hB0,hB1,hB2,hbl⟩ hm
  exact⟨hj,hB0.mod hm (by simp;omega),hB1.mod hm (by simp;omega),hB2.mod hm (by simp;omega),hbl.trans (hm.below (by have:=hB0.lt;omega) (by rintro k (h|h|h) <;> first|exact h.elim|omega))⟩
 case stabx=>
  rintro j A B ⟨hj,hB1,hB2,hbl⟩ hm
  exact⟨hj,hB1.mod hm (by simp;omega),hB2.mod hm (by simp;omega),hbl.trans (hm.below (by have:=hB1.lt;omega) (by rintro k (h|h|h) <;> first|exact h.elim|omega))⟩
 case assign=>
  intro l j hj A C hC
  simp only[nW]
  gi_wp2
  exact hC
 case body=>
  rintro l j hj A ⟨hjk,hB0,hB1,hB2,hbl⟩ hsA
  have c0:A.cell? ⟨g,0,none⟩=some (.int .i64 (k:Nat)):=hB0.cell 0
  simp only[rt,List.foldl_cons,List.foldl_nil]
  by_cases hjk2:j=k
  ·subst hjk2
   rw[HAT.out]
   have hq:((j:Int)==(j:Int))=true:=beq_self_eq_true _
   have c1:A.cell? ⟨g+1,0,none⟩=some (.int .i64 0):=hB1.cell 0
   have c2:A.cell? ⟨g+1+1,0,none⟩=some (.int .i64 0):=hB2.cell 0
   have f1:=hB1.frozen 0
   have f2:=hB2.frozen 0
   gi_wp2
   refine⟨((Mod.refl _ _).setCell (p:=⟨g+1,0,none⟩) (by simp;omega) _).setCell (p:=⟨g+1+1,0,none⟩) (by simp;omega) _,rfl,?_,?_,?_⟩
   ·exact(hB1.set_ 0 _).far (p:=⟨g+1+1,0,none⟩) (by simp) _
   ·have:=(hB2.far (p:=⟨g+1,0,none⟩) (by simp) (.int .i64 (at_:Nat))).set_ 0 (.int .i64 0)
    simpa using this
   ·exact(hbl.setCell (p:=⟨g+1,0,none⟩) (Mm _) _).setCell (p:=⟨g+1+1,0,none⟩) (by show g<=g+1+1;omega) _
  ·have hq:((j:Int)==(k:Int))=false:=beq_eq_false_iff_ne.2 (by omega)
   have hjlt:j+1<=k:=by omega
   clear hjk2
   gi_wp2
   exact⟨Mod.refl _ _,hjlt,hB0,hB1,hB2,hbl⟩
 case done=>
  rintro W ⟨hj,_⟩ hD
  omega
 case stop=>
  rintro c W ⟨rfl,hB1,hB2,hbl⟩ hD
  have hlt1:=hB1.lt
  have hB1':Blk (W.putObj W0.heap.size (.deferred none)) (g+1) 3 #[.int .i64 (at_:Nat)]:=hB1.of (K9 (by omega))
  have hB2':Blk (W.putObj W0.heap.size (.deferred none)) (g+1+1) 48 #[.int .i64 0]:=hB2.of (K9 (by omega))
  have c1:(W.putObj W0.heap.size (.deferred none)).cell? ⟨g+1,0,none⟩=some (.int .i64 (at_:Nat)):=hB1'.cell 0
  have c2:(W.putObj W0.heap.size (.deferred none)).cell? ⟨g+1+1,0,none⟩=some (.int .i64 0):=hB2'.cell 0
  gi_wp2
  subst hg
  refine lK (v:= .tuple #[.int .i64 (at_:Nat),.int .i64 0]) hD (by simp[results,results283,go_sem,c1,c2]) ⟨rfl,?_⟩
  exact hbl.trans ⟨rfl,rfl,rfl,by simp[World.putObj],fun k hk=>K9 (by omega)⟩
end
end Go.Proofs.YtpbmbjjfdpkhbaaGreat
