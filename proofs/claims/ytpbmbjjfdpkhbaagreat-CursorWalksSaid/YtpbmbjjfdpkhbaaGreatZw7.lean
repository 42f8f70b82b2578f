/- part of the proof -/
import Derived.BigQuiet
import Derived.Deep.QuietTactic
import Derived.Test.YtpbmbjjfdpkhbaaGreatZw5
import Derived.Test.YtpbmbjjfdpkhbaaGreatZw6
import Derived.Test.YtpbmbjjfdpkhbaaGreatZw2
import Derived.Test.YtpbmbjjfdpkhbaaGreatZw4
import Derived.Deep.CutRange
import Derived.Deep.RegionHeld3
namespace Go.Proofs.YtpbmbjjfdpkhbaaGreat
open Go Go.RowKit
set_option linter.all false
set_option maxRecDepth 100000
set_option maxHeartbeats 32000000
open Go.Proofs.Tryz
open And renaming intro->KW
open Below renaming refl->KR
open Bool renaming and_eq_true->Lm,false_ne_true->KP
open Go renaming wpOp_step->KT
open Go.Calls renaming quiet_of_same->LJ
open Go.IntWalk renaming i64_in->KU,wrap64_in->Ml
open Go.Lib renaming hid->KO
open Int renaming toNat_of_nonneg->LZ
open List renaming getD_eq_getElem?_getD->Lf,getElem?_append_left->Nf,getElem?_append_right->Ma,getElem?_eq_getElem->K7,mem_cons_of_mem->K4,mem_cons_self->LY,range->Lt
open Nat renaming add_mul->ML,div_le_self->Na,le_refl->KS,le_trans->KY,mul_assoc->Mc,mul_comm->LQ,mul_le_mul_left->ME,mul_le_mul_right->LH,one_mul->Mo,pow_le_pow_right->Lj,two_pow_pos->MJ,zero_le->K8
open Option.some renaming inj->KQ
theorem kI (s:Ss) (w:World) (hs:SsAt w s) (ho:SsOk s):
  Calls prog 198 #[.agg s.row] w fun r w'=>r= .returned (.int .i64 (if bF s=true then 0 else 8))/\Below w.heap.size w w':=by
 obtain⟨W0,hW0⟩:∃W0,w.alloc (.cells s.row 29)=W0:=⟨_,rfl⟩
 have hb0:Below w.heap.size w W0:=by rw[<-hW0];exact(KR _ _).alloc (KS _) _
 have b0:Blk W0 w.heap.size 29 s.row:=by rw[<-hW0];exact Blk.new _ _ _
 have hs0:=hs.below hb0
 have HW0:=KO hW0
 have HB0:=KO hb0
 have HS:=KO hs0
 have HO:=KO ho
 have hf:=fun w=>EG s.seg s.ks.length w ho.kl
 have hoc:=fun w' (hb:Below W0.heap.size W0 w')=>nV s.wA s.ws s.wc s.ks.length w' (hs0.words.below hb) (by have:=ho.kl;omega) (by have:=ho.wl;omega)
 obtain⟨FB,hFB⟩:∃b,eT s.seg s.ks.length=b:=⟨_,rfl⟩
 obtain⟨OE,hOE⟩:∃b,fZ s.ws s.ks.length=b:=⟨_,rfl⟩
 have hhead:lY s=(FB&&decide (s.vs.length=s.ks.length)&&decide (OE=0)&&decide (s.cs.length=s.ks.length/s.seg.toNat)):=by rw[<-hFB,<-hOE];rfl
 have hfo:FB=true->4<=s.seg/\s.seg<=64:=fun h=>by have:=sJ (hFB.trans h);exact⟨this.1,this.2.1⟩
 rw[hFB]at hf
 rw[hOE]at hoc
 have hOEq:=KO hOE
 have HF:=KO hf
 have HOC:=KO hoc
 have HHD:=KO hhead
 have c0:W0.cell? ⟨w.heap.size,0,none⟩=some (.int .i64 s.seg):=b0.cell 0
 have c1:W0.cell? ⟨w.heap.size,1,none⟩=some (.slice s.wA s.ws.length s.wc):=b0.cell 1
 have c2:W0.cell? ⟨w.heap.size,2,none⟩=some (.slice s.kA s.ks.length s.kc):=b0.cell 2
 have c3:W0.cell? ⟨w.heap.size,3,none⟩=some (.slice s.vA s.vs.length s.vc):=b0.cell 3
 have c4:W0.cell? ⟨w.heap.size,4,none⟩=some (.slice s.cA s.cs.length s.cc):=b0.cell 4
 obtain⟨R,hR⟩:∃R:Int,(if bF s=true then(0:Int)else 8)=R:=⟨_,rfl⟩
 have hno:lY s=false->R=8:=fun h=>by rw[<-hR];unfold bF;rw[h];simp
 have hyes:lY s=true->(if ((Lt s.ks.length).all (fJ s)&&(Lt s.cs.length).all (countB s))=true then(0:Int)else 8)=R:=fun h=>by rw[<-hR];unfold bF;rw[h];simp
 rw[hR]
 have HNO:=KO hno
 have HYES:=KO hyes
 clear hW0 hb0 hs0 hf hoc hhead hFB hOE ho hs hR hno hyes
 go_enter func198,ntmps198
 go_upto_region 2 with fail
 rw[HW0.out]
 have hw0:wrap64 (8:Int)=8:=Ml _ (by omega)
 cases FB with
 |false=>
  obtain rfl:R=8:=HNO.out (by rw[HHD.out];simp)
  go_big_quiet (first|(go_at_call 210;exact LJ (HF.out _))|(go_at_call 211;exact LJ (HOC.out _ (by first|exact KR _ _|exact ay (KR _ _) _))))
  go_wp2_with fail
  go_ret
  exact⟨rfl,aa HB0.out (ay (KR _ _) _)⟩
 |true=>
  obtain⟨h4,h64⟩:=hfo rfl
  have g0:¬s.seg=0:=by omega
  have g1:(0:Int)< s.seg:=by omega
  obtain⟨D,hD⟩:∃D,s.ks.length/s.seg.toNat=D:=⟨_,rfl⟩
  have hDi:(s.ks.length:Int)/s.seg=(D:Int):=by rw[<-hD,Int.natCast_ediv,LZ (by omega)]
  have hD75:D<=75:=by rw[<-hD];exact KY (Nat.div_le_div_left (by omega:4<=s.seg.toNat) (by omega)) (by have:=HO.out.kl;omega)
  have hwk:wrap64 (D:Int)=(D:Int):=Ml _ (by omega)
  rw[hD]at HHD
  have hDd:=hD
  clear hfo hD
  by_cases hv:s.vs.length=s.ks.length
  case neg=>
   obtain rfl:R=8:=HNO.out (by rw[HHD.out];simp[hv])
   have hvi:((s.vs.length:Int)!=(s.ks.length:Int))=true:=by simp;omega
   clear hv
   go_big_quiet (first|(go_at_call 210;exact LJ (HF.out _))|(go_at_call 211;exact LJ (HOC.out _ (by first|exact KR _ _|exact ay (KR _ _) _))))
   go_wp2_with fail
   go_ret
   exact⟨rfl,aa HB0.out (ay (KR _ _) _)⟩
  case pos=>
  have hvi:(s.vs.length:Int)=(s.ks.length:Int):=by omega
  have HV:=KO hv
  clear hv
  by_cases ho:OE=0
  case neg=>
   obtain rfl:R=8:=HNO.out (by rw[HHD.out];simp[ho])
   have hoi:(OE !=0)=true:=by simpa using ho
   clear ho
   go_big_quiet (first|(go_at_call 210;exact LJ (HF.out _))|(go_at_call 211;exact LJ (HOC.out _ (by first|exact KR _ _|exact ay (KR _ _) _))))
   go_wp2_with fail
   go_ret
   exact⟨rfl,aa HB0.out (ay (KR _ _) _)⟩
  case pos=>
  have hOE0:=hOEq.out.trans ho
  subst ho
  by_cases hc:s.cs.length=D
  case neg=>
   obtain rfl:R=8:=HNO.out (by rw[HHD.out];simp[hc])
   have hci:((s.cs.length:Int)!=(D:Int))=true:=by simp;omega
   clear hc
   go_big_quiet (first|(go_at_call 210;exact LJ (HF.out _))|(go_at_call 211;exact LJ (HOC.out _ (by first|exact KR _ _|exact ay (KR _ _) _))))
   go_wp2_with fail
   go_ret
   exact⟨rfl,aa HB0.out (ay (KR _ _) _)⟩
  case pos=>
  have hci:(s.cs.length:Int)=(D:Int):=by omega
  have HC:=KO hc
  clear hc
  have hh:lY s=true:=by rw[HHD.out];simp[HV.out,HC.out]
  have HYE:=KO (HYES.out hh)
  clear hh HYES HNO
  go_big_quiet (first|(go_at_call 210;exact LJ (HF.out _))|(go_at_call 211;exact LJ (HOC.out _ (by first|exact KR _ _|exact ay (KR _ _) _))))
  go_wp2_with fail
  obtain⟨G,hG⟩:∃G:Nat,s.seg.toNat=G:=⟨_,rfl⟩
  have hsg:s.seg=(G:Int):=by omega
  have HSG:=KO hsg
  have HGG:=KO hG
  have HDG:=KO (show G*D<=s.ks.length by rw[<-hG,<-hDd];exact Nat.mul_div_le _ _)
  have HLW:=KO (show s.ws.length=(s.ks.length+63)/64 by
   have h:=hOE0
   unfold fZ at h
   by_cases h2:s.ws.length=(s.ks.length+63)/64/\(s.ks.length %64=0∨s.ws.getD (s.ws.length-1) 0/2 ^ (s.ks.length %64)=0)
   ·exact h2.1
   ·rw[if_neg h2]at h;cases h)
  have HVC:=KO hvi
  have HG4:=KO (show 4<=G/\G<=64 by omega)
  clear hsg hG h4 h64 g0 g1 hvi hDi hwk hDd hOE0 hci hD75
  go_loopw [42] (fun i wr=>∃k:Nat,k<=s.ks.length/\i= .int .i64 k/\wr=W0.drewN nq/\Hid (∀j,j< k->fJ s j=true)) (fun i _=>s.ks.length-(intOf i).toNat)
  case atStart=>exact⟨0,K8 _,rfl,rfl,fun j hj=>absurd hj (Nat.not_lt_zero j)⟩
  case round=>
   obtain⟨k,hk,rfl,hww,hn⟩:=hrel
   subst hww
   by_cases hlt:k< s.ks.length
   ·have hlt2:k< s.vs.length:=by have:=HV.out;omega
    have hlt3:k/64< s.ws.length:=by have:=HLW.out;omega
    obtain⟨b1,o1,e1,hbl1,d1⟩:=HS.out.words.one (k/64) hlt3
    obtain⟨b2,o2,e2,hbl2,d2⟩:=HS.out.keys.one k hlt
    obtain⟨b3,o3,e3,hbl3,d3⟩:=HS.out.vals.one k hlt2
    obtain⟨x,hx⟩:∃x,s.ws[k/64]'hlt3=x:=⟨_,rfl⟩
    obtain⟨y,hy⟩:∃x,s.ks[k]'hlt=x:=⟨_,rfl⟩
    obtain⟨z,hz⟩:∃x,s.vs[k]'hlt2=x:=⟨_,rfl⟩
    obtain⟨K,hK⟩:∃K,k/64=K:=⟨_,rfl⟩
    have hbw:fF s.ws k=x/2 ^ (k %64) %2:=by unfold fF;rw[vD hlt3,hx]
    have hx64:x< 18446744073709551616:=by rw[<-hx];exact HO.out.w64 _ (List.getElem_mem hlt3)
    obtain⟨m,hm⟩:∃m,k %64=m:=⟨_,rfl⟩
    rw[hm]at hbw
    obtain⟨Y,hY⟩:∃Y,x/2 ^ m=Y:=⟨_,rfl⟩
    have hY64:Y< 18446744073709551616:=by rw[<-hY];exact Nat.lt_of_le_of_lt (Na _ _) hx64
    rw[hY]at hbw
    have i1:(k:Int) %64=(m:Int):=BR k m 64 hm
    have hyb:s.ks.getD k 0=y:=by rw[Lf,K7 hlt,<-hy];rfl
    have hzb:s.vs.getD k 0=z:=by rw[Lf,K7 hlt2,<-hz];rfl
    have HBR:=KO (show fJ s k=(decide (Y %2=1)||(decide (y=0)&&decide (z=0)))by unfold fJ;rw[hbw,hyb,hzb])
    rw[hx]at d1
    rw[hy]at d2
    rw[hz]at d3
    simp only[hK]at d1 hlt3
    rw[e1]at c1
    rw[e2]at c2
    rw[e3]at c3
    clear e1 e2 e3
    have f1:W0.cell? ⟨b1,o1+K,none⟩=some (.int .u64 (x:Nat)):=d1
    have f2:W0.cell? ⟨b2,o2+k,none⟩=some (.int .i64 y):=d2
    have f3:W0.cell? ⟨b3,o3+k,none⟩=some (.int .i64 z):=d3
    have i2:(0:Int)<=(K:Int):=by omega
    have i3:(K:Int)< (s.ws.length:Int):=by omega
    have i4:(0:Int)<=(k:Int):=by omega
    have i5:(k:Int)< (s.ks.length:Int):=by omega
    have i6:(k:Int)< (s.vs.length:Int):=by omega
    have HLT:=KO hlt
    have HY64:=KO hY64
    have HYY:=KO hY
    have HM64:=KO (show m< 64 by rw[<-hm];exact Nat.mod_lt _ (by decide))
    clear hY hx64 hY64
    have hw0:wrap64 ((k:Int)/64)=(K:Int):=tC k K hK (KY hk (KY HO.out.kl (by decide)))
    have hw9:=aU k (KY hk (KY HO.out.kl (by decide)))
    have HW9:=KO hw9
    clear hK
    clear hw9
    clear hx hy hz hm hbw hyb hzb d1 d2 d3 hlt3 hlt2 hlt
    by_cases hb:Y %2=1
    ·obtain⟨hqa,hqb⟩:=Hl Y HY64.out hb
     have HT:=KO (show fJ s k=true by rw[HBR.out];simp[hb])
     clear hb
     go_upto_region 7 with fail
     repeat (first|go_values|go_skip|go_guarded|(go_big_may;refine iK rfl (.tmp 50) (.tmp 52) _ rfl x m Y HM64.out rfl (by first|rfl|(show Value.int _ _=_;rw[i1])) HYY.out ?_)|go_step|go_upon)
     go_roundw
     case rel=>exact⟨k+1,HLT.out,by rw[HW9.out],trivial,fun j hj=>by
      rcases Nat.lt_succ_iff_lt_or_eq.1 hj with h|h
      ·exact hn.out j h
      ·rw[h];exact HT.out⟩
     case measure=>exact bT _ k HLT.out HW9.out
    ·obtain⟨hqa,hqb⟩:=Fg Y HY64.out hb
     have HQ:=KO hb
     clear hb
     by_cases hy0:y=0
     ·subst hy0
      by_cases hz0:z=0
      ·subst hz0
       have HT:=KO (show fJ s k=true by rw[HBR.out];simp)
       go_upto_region 7 with fail
       repeat (first|go_values|go_skip|go_guarded|(go_big_may;refine iK rfl (.tmp 50) (.tmp 52) _ rfl x m Y HM64.out rfl (by first|rfl|(show Value.int _ _=_;rw[i1])) HYY.out ?_)|go_step|go_upon)
       go_roundw
       case rel=>exact⟨k+1,HLT.out,by rw[HW9.out],trivial,fun j hj=>by
        rcases Nat.lt_succ_iff_lt_or_eq.1 hj with h|h
        ·exact hn.out j h
        ·rw[h];exact HT.out⟩
       case measure=>exact bT _ k HLT.out HW9.out
      ·have hzi:(z !=0)=true:=by simpa using hz0
       obtain rfl:R=8:=by rw[<-HYE.out,jy HLT.out (show fJ s k=false by rw[HBR.out];simp[HQ.out,hz0])];simp
       go_upto_region 7 with fail
       repeat (first|go_values|go_skip|go_guarded|(go_big_may;refine iK rfl (.tmp 50) (.tmp 52) _ rfl x m Y HM64.out rfl (by first|rfl|(show Value.int _ _=_;rw[i1])) HYY.out ?_)|go_step|go_upon)
       go_ret
       exact⟨rfl,aa HB0.out (ay (KR _ _) _)⟩
     ·have hyi:(y !=0)=true:=by simpa using hy0
      obtain rfl:R=8:=by rw[<-HYE.out,jy HLT.out (show fJ s k=false by rw[HBR.out];simp[HQ.out,hy0])];simp
      go_upto_region 7 with fail
      repeat (first|go_values|go_skip|go_guarded|(go_big_may;refine iK rfl (.tmp 50) (.tmp 52) _ rfl x m Y HM64.out rfl (by first|rfl|(show Value.int _ _=_;rw[i1])) HYY.out ?_)|go_step|go_upon)
      go_ret
      exact⟨rfl,aa HB0.out (ay (KR _ _) _)⟩
   ·have i1:¬(k:Int)< (s.ks.length:Int):=by omega
    have HALL:=KO (iW (p:=fJ s) (n:=s.ks.length) fun i hi=>hn.out i (by omega))
    clear hlt hk hn
    go_wp2_with fail
    have HB0b:=KO b0
    have HW:=KO (ay (KR W0.heap.size W0) nq)
    obtain⟨cA,hcA⟩:∃x,s.cA=x:=⟨_,rfl⟩
    rw[hcA]
    have HCA:=KO hcA
    clear b0 c0 c1 c2 c3 c4 hcA i1
    obtain⟨WL,hWL⟩:∃W,W0.drewN nq=W:=⟨_,rfl⟩
    have HWB:=HW.out
    rw[hWL]at HWB ⊢
    have HWBH:=KO HWB
    clear hWL HWB HW
    go_loopw [76] (fun i wr=>∃k:Nat,k<=s.cs.length/\i= .int .i64 k/\Below W0.heap.size W0 wr/\Hid (∀j,j< k->countB s j=true)) (fun i _=>s.cs.length-(intOf i).toNat)
    case atStart=>exact⟨0,K8 _,rfl,HWBH.out,fun j hj=>absurd hj (Nat.not_lt_zero j)⟩
    case round=>
     obtain⟨k,hk,rfl,hb,hn⟩:=hrel
     have HBW:=KO hb
     by_cases hlt:k< s.cs.length
     ·obtain⟨b1,o1,e1,hbl1,d1⟩:=HS.out.cnts.oneB hb k hlt
      obtain rfl:cA=some ⟨b1,o1,none⟩:=HCA.out.symm.trans e1
      obtain⟨y,hy⟩:∃x,s.cs[k]'hlt=x:=⟨_,rfl⟩
      have hyb:s.cs.getD k 0=y:=by rw[Lf,K7 hlt,<-hy];rfl
      rw[hy]at d1
      have f1:wr.cell? ⟨b1,o1+k,none⟩=some (.int .i64 y):=d1
      have hse:=BZ k D G s.ks.length (by rw[<-HC.out];exact hlt) HDG.out
      have hsl:=CP k G
      have HBR:=KO (show countB s k=decide (y=(bf s.ws (k*G) G:Nat))by unfold countB;rw[hyb,HGG.out])
      obtain⟨F,hF⟩:∃F,k*G=F:=⟨_,rfl⟩
      obtain⟨T,hT⟩:∃T,(k+1)*G=T:=⟨_,rfl⟩
      rw[hT]at hse
      have hFT:F<=T:=by rw[<-hF,<-hT];exact LH _ (Nat.le_succ _)
      have mm:=jF k G F hF (KY hFT (KY hse (KY HO.out.kl (by decide))))
      have mn:=tF k G T hT (KY hse (KY HO.out.kl (by decide)))
      have MM:=KO mm
      have MN:=KO mn
      clear mm mn
      have hTF:T-F=G:=by rw[<-hF,<-hT];exact hsl
      rw[hF]at HBR
      obtain⟨C,hC⟩:∃C,bf s.ws F G=C:=⟨_,rfl⟩
      have hco:=fun W (h:Sl W s.wA (s.ws.map uw))=>vQ s.wA s.ws s.wc s.ks.length F T W h HO.out.w64 (KY HO.out.wl (by decide)) (KY HO.out.kl (by decide)) hOEq.out hFT hse
      rw[hTF,hC]at hco
      rw[hC]at HBR
      have HCO:=KO (hco wr (HS.out.words.below hb))
      have hbb:=HB0b.out.below hb HB0b.out.lt
      have c0:wr.cell? ⟨w.heap.size,0,none⟩=some (.int .i64 (G:Int)):=by rw[<-HSG.out];exact hbb.cell 0
      have c1:wr.cell? ⟨w.heap.size,1,none⟩=some (.slice s.wA s.ws.length s.wc):=hbb.cell 1
      have hw9:=aU k (by have:=HO.out.cl;omega)
      have HW9:=KO hw9
      clear hw9
      have HLT:=KO hlt
      have j0:(0:Int)<=(k:Int):=by omega
      have j1:(k:Int)< (s.cs.length:Int):=by omega
      clear hy hyb hF hT hC hco hbb hse hsl hFT hTF d1 hb hlt e1
      have m1:∀[Inhabited Nat],IntKind.i64.wrap ((k:Int)*(G:Int))=(F:Int):=MM.out.1
      have m2:∀[Inhabited Nat],wrap64 ((k:Int)*(G:Int))=(F:Int):=MM.out.2
      have m3:∀[Inhabited Nat],IntKind.i64.wrap (((k:Int)+1)*(G:Int))=(T:Int):=MN.out.1
      have m4:∀[Inhabited Nat],wrap64 (((k:Int)+1)*(G:Int))=(T:Int):=MN.out.2
      have m5:∀[Inhabited Nat],wrap64 ((k:Int)+1)=(k:Int)+1:=HW9.out
      go_wp2_with fail
      refine HCO.out.mono ?_
      rintro e w1 ⟨rfl,hb1⟩
      have HB1:=KO hb1
      clear m1 m2 m3 m4 m5 hb1 c0 c1 f1 j0
      by_cases hCy:(C:Int)=y
      ·have hne:((C:Int)!=y)=false:=by simpa using hCy
       have HT:=KO (show countB s k=true by rw[HBR.out];simp[hCy])
       clear hCy
       go_wp2_with fail
       go_roundw
       case rel=>exact⟨k+1,HLT.out,by rw[HW9.out],aa HBW.out HB1.out,fun j hj=>by
        rcases Nat.lt_succ_iff_lt_or_eq.1 hj with h|h
        ·exact hn.out j h
        ·rw[h];exact HT.out⟩
       case measure=>exact bT _ k HLT.out HW9.out
      ·have hne:((C:Int)!=y)=true:=by simpa using hCy
       obtain rfl:R=8:=by rw[<-HYE.out,jy (p:=countB s) HLT.out (by rw[HBR.out];exact decide_eq_false fun h=>hCy h.symm)];simp
       clear hCy
       go_wp2_with fail
       go_ret
       exact⟨rfl,aa HB0.out (aa HBW.out HB1.out)⟩
     ·have j1:¬(k:Int)< (s.cs.length:Int):=by omega
      have hall2:=iW (p:=countB s) (n:=s.cs.length) fun i hi=>hn.out i (by omega)
      obtain rfl:R=0:=by rw[<-HYE.out,HALL.out,hall2];rfl
      clear hall2
      go_wp2_with fail
      go_ret
      exact⟨rfl,aa HB0.out HBW.out⟩
def Bf (c:Cfg) (s:Ss) (h i:Nat):Bool:=lZ c s.ks.length h (bf s.ws (i*(c.seg.toNat*2 ^ h)) (c.seg.toNat*2 ^ h))&&gI c s.ks.length h (bf s.ws (i*(c.seg.toNat*2 ^ h)) (c.seg.toNat*2 ^ h))
def rH (c:Cfg) (s:Ss) (h:Nat):Bool:=(Lt (s.ks.length/(c.seg.toNat*2 ^ h))).all (Bf c s h)
def gY (c:Cfg) (s:Ss):Bool:=(Lt (aM c s.ks.length+1)).all (rH c s)
def ug (c:Cfg) (s:Ss):Bool:=uh c s.ks.length&&bF s&&decide (s.seg=c.seg)&&decide (((bf s.ws 0 s.ks.length:Nat):Int)<=c.most)&&gY c s
def qp (c:Cfg) (s:Ss):Int:=if lW c=true then(if ug c s=true then 0 else 8)else 50
theorem BL (w:World) (c:Cfg) (s:Ss):∃W,(w.alloc (.cells c.row 24)).alloc (.cells s.row 29)=W/\Below w.heap.size w W/\Blk W w.heap.size 24 c.row/\Blk W (w.heap.size+1) 29 s.row:=by
 refine⟨_,rfl,((KR _ _).alloc (KS _) _).alloc (by simp) _,(Blk.new _ _ _).alloc _,?_⟩
 have:=Blk.new (w.alloc (.cells c.row 24)) 29 s.row
 rwa [World.size_alloc]at this
theorem yn (Y k:Nat):(wL Y k).length=k*2:=by
 induction k with
 |zero=>rfl
 |succ k ih=>rw[ow,List.length_append,ih];simp;omega
theorem yO (Y:Nat):∀k i:Nat,i< k->(wL Y k)[i*2]?=some (nv (i*Y))/\(wL Y k)[i*2+1]?=some (nv (i*Y+Y))
 |0,i,h=>absurd h (Nat.not_lt_zero i)
 |k+1,i,h=>by
  rw[ow]
  by_cases hk:i< k
  ·have h1:=yO Y k i hk
   have hl:=yn Y k
   rw[Nf (by omega),Nf (by omega)]
   exact h1
  ·obtain rfl:i=k:=by omega
   have hl:=yn Y i
   rw[Ma (by omega),Ma (by omega),hl]
   simp
theorem Il {w W:World} {A:Option Addr} {Y K i:Nat} (h:Sl w A (wL Y K)) (hb:Below w.heap.size w W) (hi:i< K):∃b o,A=some ⟨b,o,none⟩/\W.cell? ⟨b,o+i*2,none⟩=some (.int .i64 ((i*Y:Nat):Int))/\W.cell? ⟨b,o+i*2+1,none⟩=some (.int .i64 ((i*Y+Y:Nat):Int)):=by
 have hg:=yO Y K i hi
 rcases h.below hb with h0|⟨b,o,hA,_,hc⟩
 ·rw[h0]at hg;simp at hg
 ·exact⟨b,o,hA,hc _ _ hg.1,by rw[Nat.add_assoc];exact hc _ _ hg.2⟩
theorem aN {P:Prop} (h:P:=by
  iterate 22 apply Exists.intro
  refine⟨rfl,?_,?_,?_,?_,?_,?_,?_,?_,?_,?_,?_,?_,?_,?_,?_,?_,?_,?_,?_,?_,?_,?_,?_⟩
  ·first|exact HB.out|exact aa HB.out hb1
  ·first|exact F0.out|exact fun _=>rfl
  ·first|exact F1.out|exact fun _=>rfl
  ·first|exact F2.out|exact fun _=>rfl
  ·first|exact F3.out|exact fun _=>rfl
  ·first|exact F4.out|exact fun _=>rfl
  ·first|exact F5.out|exact fun _=>rfl
  ·first|exact F6.out|exact fun _=>rfl
  ·first|exact F7.out|exact fun _=>rfl
  ·first|exact F8.out|exact fun _ _=>rfl|(intro _ h;refine absurd h ?_;decide;done)
  ·first|exact F9.out|exact fun _ _=>rfl|(intro _ h;refine absurd h ?_;decide;done)
  ·first|exact F10.out|exact fun _ _=>rfl|(intro _ h;refine absurd h ?_;decide;done)
  ·first|exact F11.out|exact fun _ _=>rfl|(intro _ h;refine absurd h ?_;decide;done)
  ·first|exact F12.out|exact fun _ _=>rfl|(intro _ h;refine absurd h ?_;decide;done)
  ·first|exact F13.out|exact fun _=>rfl
  ·first|exact F14.out|exact fun _=>rfl
  ·first|exact F15.out|exact fun _ _=>rfl|(intro _ h;refine absurd h ?_;decide;done)
  ·first|exact F16.out|exact fun _ _=>rfl|(intro _ h;refine absurd h ?_;decide;done)
  ·first|exact F17.out|exact fun _ _=>rfl|(intro _ h;refine absurd h ?_;decide;done)
  ·first|exact F18.out|exact fun _ _=>rfl|(intro _ h;refine absurd h ?_;decide;done)
  ·first|exact F19.out|exact fun _ _=>rfl|(intro _ h;refine absurd h ?_;decide;done)
  ·first|exact F20.out|exact fun _ _=>rfl|(intro _ h;refine absurd h ?_;decide;done)
  ·first|exact F21.out|exact fun _=>rfl):P:=h
theorem vS (c:Cfg) (s:Ss) (w:World) (hs:SsAt w s) (ho:SsOk s) (hcap:s.cs.length<=s.cc):
  Calls prog 193 #[.agg c.row,.agg s.row] w fun r w'=>r= .returned (.int .i64 (qp c s))/\Below w.heap.size w w':=by
 have hch:=fun W=>mM c W
 obtain⟨R,hR⟩:∃R,qp c s=R:=⟨_,rfl⟩
 rw[hR]
 unfold qp at hR
 unfold iP at hch
 obtain⟨W0,hW0,hb0,b0,bs0⟩:=BL w c s
 have HCH:=KO hch
 have HW0:=KO hW0
 have HB0:=KO hb0
 have HC0:=KO b0
 have HS0:=KO bs0
 have HSA:=KO (hs.below hb0)
 have HOK:=KO ho
 have HCAP:=KO hcap
 have HR:=KO hR
 clear hch hW0 hb0 b0 bs0 hs ho hcap hR
 obtain⟨i0,q0,q1,q2,q3,q4,q5,q6,q7,q8⟩:=iD HC0.out
 go_enter func193,ntmps193
 go_upto_region 1 with fail
 rw[HW0.out]
 go_wp2_with fail
 cases hk:lW c with
 |false=>
  have hch:=HCH.out W0
  rw[hk]at hch
  have hr:=HR.out
  rw[hk]at hr
  obtain rfl:R=50:=by rw[<-hr];rfl
  refine hch.mono ?_
  rintro e w1 ⟨rfl,hb1⟩
  have HB1:=KO (aa HB0.out hb1)
  clear hb1 hr hch
  go_wp2_with fail
  go_ret
  exact⟨rfl,HB1.out⟩
 |true=>
 have hch:=HCH.out W0
 rw[hk]at hch
 have hr:=HR.out
 rw[hk,if_pos rfl]at hr
 have HR2:=KO hr
 refine hch.mono ?_
 rintro e w1 ⟨rfl,hb1⟩
 have HB1:=KO (aa HB0.out hb1)
 have HC1:=KO (HC0.out.below hb1 HC0.out.lt)
 have HS1:=KO (HS0.out.below hb1 HS0.out.lt)
 have HSB:=KO (HSA.out.below hb1)
 have hhi:=fun W=>uN c s.ks.length W hk HOK.out.kl
 have HK:=KO hk
 clear hb1 hr hch q0 q1 q2 q3 q4 q5 q6 q7 q8 i0 HB0 HC0 HS0 HW0 HSA HR HCH hk
 obtain⟨i0,q0,q1,q2,q3,q4,q5,q6,q7,q8⟩:=iD HC1.out
 have r2:w1.cell? ⟨w.heap.size+1,2,none⟩=some (.slice s.kA s.ks.length s.kc):=HS1.out.cell 2
 cases hz:uh c s.ks.length with
 |false=>
  rw[hz]at hhi
  have HH:=KO hhi
  obtain rfl:R=8:=by rw[<-HR2.out];unfold ug;rw[hz];rfl
  clear hhi hz
  go_wp2_with fail
  refine(HH.out _).mono ?_
  rintro e w2 ⟨rfl,hb2⟩
  have HB2:=KO (aa HB1.out hb2)
  clear hb2
  go_upto_region 6 with fail
  go_big_quiet (fail)
  go_wp2_with fail
  go_ret
  exact⟨rfl,aa HB2.out (ay (KR _ _) _)⟩
 |true=>
 rw[hz]at hhi
 obtain⟨H,hH⟩:∃C,aM c s.ks.length=C:=⟨_,rfl⟩
 rw[hH]at hhi
 have HH:=KO hhi
 have HHQ:=KO hH
 have HZ:=KO hz
 clear hhi hz hH
 go_wp2_with fail
 refine(HH.out _).mono ?_
 rintro e w2 ⟨rfl,hb2⟩
 have HB2:=KO (aa HB1.out hb2)
 have HC2:=KO (HC1.out.below hb2 HC1.out.lt)
 have HS2:=KO (HS1.out.below hb2 HS1.out.lt)
 have HSC:=KO (HSB.out.below hb2)
 clear hb2 q0 q1 q2 q3 q4 q5 q6 q7 q8 i0 r2 HB1 HC1 HS1 HSB HH
 go_upto_region 6 with fail
 have hsc:=fun W (hW:Below w2.heap.size w2 W)=>kI s W (HSC.out.below hW) HOK.out
 obtain⟨M,hM⟩:∃M,bF s=M:=⟨_,rfl⟩
 rw[hM]at hsc
 obtain⟨E,hE⟩:∃E:Int,(if M=true then(0:Int)else 8)=E:=⟨_,rfl⟩
 rw[hE]at hsc
 have HSC7:=KO hsc
 obtain⟨P,hP⟩:∃P,(E !=0)=P:=⟨_,rfl⟩
 have hP2:(!decide (E=0))=P:=by rw[<-hP];by_cases h:E=0 <;> simp[h]
 have hMP:P=false->M=true:=fun h=>by
  cases M with
  |true=>rfl
  |false=>rw[<-hP,<-hE]at h;exact absurd h (by decide)
 have hPM:P=true->M=false:=fun h=>by
  cases M with
  |false=>rfl
  |true=>rw[<-hP,<-hE]at h;exact absurd h (by decide)
 have HP:=KO (KW hP (KW hP2 (KW hMP hPM)))
 obtain⟨X12,hX12⟩:∃P,(s.seg !=c.seg)=P:=⟨_,rfl⟩
 have hX2:(!decide (s.seg=c.seg))=X12:=by rw[<-hX12];by_cases h:s.seg=c.seg <;> simp[h]
 have HX12:=KO (KW hX12 hX2)
 obtain⟨Q,hQ⟩:∃Q,(P||X12)=Q:=⟨_,rfl⟩
 have HQ:=KO (show(P=true->Q=true)/\(P=false->Q=X12)by rw[<-hQ];exact⟨fun h=>by rw[h];rfl,fun h=>by rw[h];rfl⟩)
 have ham:=fun(hm:bF s=true) W (hW:Below w2.heap.size w2 W)=>by
  have hsg:=fG hm
  have h:=uy s 0 s.cs.length 0 s.ks.length W (HSC.out.below hW) HOK.out hm HCAP.out hsg.d0 (KS _) (Nat.zero_mul _) (by rw[hsg.kl,LQ])
  rw[Nat.sub_zero]at h
  exact h
 obtain⟨N0,hN0⟩:∃N,bf s.ws 0 s.ks.length=N:=⟨_,rfl⟩
 rw[hN0]at ham
 have HAM:=KO (show Q=false->∀W,Below w2.heap.size w2 W->Calls prog 199 #[.agg s.row,.int .i64 0,.int .i64 (s.ks.length:Nat)] W (fun r w'=>r= .returned (.int .i64 (N0:Nat))/\Below W.heap.size W w')from fun h=>ham (hM.trans (hMP (by cases P with
  |false=>rfl
  |true=>rw[<-hQ]at h;simp at h))))
 obtain⟨X20,hX20⟩:∃P,decide (c.most< (N0:Int))=P:=⟨_,rfl⟩
 have HX20:=KO hX20
 obtain⟨V,hV⟩:∃Q',(Q||X20)=Q':=⟨_,rfl⟩
 have HV:=KO (show(Q=true->V=true)/\(Q=false->V=X20)by rw[<-hV];exact⟨fun h=>by rw[h];rfl,fun h=>by rw[h];rfl⟩)
 have hmg:ug c s=(!V&&gY c s):=by
  unfold ug
  rw[HZ.out,hM,hN0,<-hV,<-hQ,<-hX12,<-hX20,Bool.true_and]
  cases M with
  |false=>rw[<-hP,<-hE];rfl
  |true=>
   have:P=false:=by rw[<-hP,<-hE];rfl
   rw[this]
   by_cases h1:s.seg=c.seg
   ·by_cases h2:((N0:Nat):Int)<=c.most
    ·simp[h1,h2]
    ·simp[h1,h2]
   ·simp[h1]
 have HMG:=KO (show V=false->bF s=true/\s.seg=c.seg from fun h=>by
  have hq:Q=false:=by cases Q with
   |false=>rfl
   |true=>rw[<-hV]at h;simp at h
  have hp:P=false:=by cases P with
   |false=>rfl
   |true=>rw[<-hQ]at hq;simp at hq
  have hx:X12=false:=by rw[<-hQ,hp]at hq;exact hq
  exact⟨hM.trans (hMP hp),by rw[hx]at hX12;simpa using hX12⟩)
 have hr2:=HR2.out
 rw[hmg]at hr2
 have HR3:=KO hr2
 clear hsc hM hE hP hP2 hMP hPM hX12 hX2 hQ ham hN0 hX20 hV hmg hr2 HR2
 refine aH (by kernel_rfl) (by kernel_rfl) (fun L a W=>∃(t33 t34 t35 t36 t37 t38 t39 t40 t41 t42 t43 t44 t45 t46 t47 t48 t49 t50 t51 t52 t53 t54:Value),a=⟨#[Value.agg c.row,Value.agg s.row,.pointer (some {block:=w.heap.size,off:=0}),.pointer (some {block:=w.heap.size+1,off:=0}),.int .i64 0,.int .i64 0,.int .i64 ↑s.ks.length,.int .i64 ↑H,.int .i64 0,undef,undef,undef,undef,undef,undef,undef,undef,undef,undef,Value.agg #[.int .u8 c.tag,.int .i64 c.most,.int .i64 c.seg,.int .i64 c.least,.int .i64 c.den,.int .i64 c.leafLow,.int .i64 c.rootLow,.int .i64 c.rootHigh,.int .i64 c.leafHigh],.int .i64 0,.int .i64 0,.bool false,undef,.pointer (some {block:=w.heap.size+1,off:=2}),.slice s.kA s.ks.length s.kc,.int .i64 ↑s.ks.length,Value.tuple #[.int .i64 ↑H,.int .i64 0],Value.agg #[.int .u8 c.tag,.int .i64 c.most,.int .i64 c.seg,.int .i64 c.least,.int .i64 c.den,.int .i64 c.leafLow,.int .i64 c.rootLow,.int .i64 c.rootHigh,.int .i64 c.leafHigh],.int .i64 ↑s.ks.length,Value.tuple #[.int .i64 ↑H,.int .i64 0],.int .i64 ↑H,.int .i64 0,t33,t34,t35,t36,t37,t38,t39,t40,t41,t42,t43,t44,t45,t46,t47,t48,t49,t50,t51,t52,t53,t54,undef,undef,undef,undef,undef,undef,undef,undef,undef,undef,undef,undef,undef,undef,undef,undef,undef,undef,undef,undef,undef,undef,undef,undef,undef,undef,undef,undef,undef,undef,undef,undef,undef,undef,undef,undef,undef,undef,undef,undef,undef,undef,undef,undef,undef,undef,undef,undef,undef],[]⟩/\Below w2.heap.size w2 W/\(L 0=true->t33= .int .i64 0)/\(L 1=true->t34= .bool false)/\(L 2=true->t35= .bool false)/\(L 3=true->t36= .agg s.row)/\(L 4=true->t37= .int .i64 E)/\(L 5=true->t38= .bool P)/\(L 6=true->t39= .bool P)/\(L 7=true->t40= .bool P)/\(L 8=true->P=false->t41= .pointer (some ⟨w.heap.size+1,0,none⟩))/\(L 9=true->P=false->t42= .int .i64 s.seg)/\(L 10=true->P=false->t43= .pointer (some ⟨w.heap.size,2,none⟩))/\(L 11=true->P=false->t44= .int .i64 c.seg)/\(L 12=true->P=false->t45= .bool X12)/\(L 13=true->t46= .bool Q)/\(L 14=true->t47= .bool Q)/\(L 15=true->Q=false->t48= .agg s.row)/\(L 16=true->Q=false->t49= .int .i64 (s.ks.length:Nat))/\(L 17=true->Q=false->t50= .int .i64 (N0:Nat))/\(L 18=true->Q=false->t51= .pointer (some ⟨w.heap.size,1,none⟩))/\(L 19=true->Q=false->t52= .int .i64 c.most)/\(L 20=true->Q=false->t53= .bool X20)/\(L 21=true->t54= .bool V)) ?h0 ?hstep ?hend
 case h0=>exact⟨undef,undef,undef,undef,undef,undef,undef,undef,undef,undef,undef,undef,undef,undef,undef,undef,undef,undef,undef,undef,undef,undef,rfl,(KR _ _).drew,fun h=>absurd h KP,fun h=>absurd h KP,fun h=>absurd h KP,fun h=>absurd h KP,fun h=>absurd h KP,fun h=>absurd h KP,fun h=>absurd h KP,fun h=>absurd h KP,fun h=>absurd h KP,fun h=>absurd h KP,fun h=>absurd h KP,fun h=>absurd h KP,fun h=>absurd h KP,fun h=>absurd h KP,fun h=>absurd h KP,fun h=>absurd h KP,fun h=>absurd h KP,fun h=>absurd h KP,fun h=>absurd h KP,fun h=>absurd h KP,fun h=>absurd h KP,fun h=>absurd h KP⟩
 case hend=>
  rintro L a W hall ⟨t33,t34,t35,t36,t37,t38,t39,t40,t41,t42,t43,t44,t45,t46,t47,t48,t49,t50,t51,t52,t53,t54,rfl,hb,f0,f1,f2,f3,f4,f5,f6,f7,f8,f9,f10,f11,f12,f13,f14,f15,f16,f17,f18,f19,f20,f21⟩
  have z0:=f0 (hall 0 (by decide))
  have z1:=f1 (hall 1 (by decide))
  have z2:=f2 (hall 2 (by decide))
  have z3:=f3 (hall 3 (by decide))
  have z4:=f4 (hall 4 (by decide))
  have z5:=f5 (hall 5 (by decide))
  have z6:=f6 (hall 6 (by decide))
  have z7:=f7 (hall 7 (by decide))
  have z8:=f8 (hall 8 (by decide))
  have z9:=f9 (hall 9 (by decide))
  have z10:=f10 (hall 10 (by decide))
  have z11:=f11 (hall 11 (by decide))
  have z12:=f12 (hall 12 (by decide))
  have z13:=f13 (hall 13 (by decide))
  have z14:=f14 (hall 14 (by decide))
  have z15:=f15 (hall 15 (by decide))
  have z16:=f16 (hall 16 (by decide))
  have z17:=f17 (hall 17 (by decide))
  have z18:=f18 (hall 18 (by decide))
  have z19:=f19 (hall 19 (by decide))
  have z20:=f20 (hall 20 (by decide))
  have z21:=f21 (hall 21 (by decide))
  clear hall f0 f1 f2 f3 f4 f5 f6 f7 f8 f9 f10 f11 f12 f13 f14 f15 f16 f17 f18 f19 f20 f21
  have hz:=z21
  subst hz
  have HB3:=KO (aa HB2.out hb)
  have HC3:=KO (HC2.out.below hb HC2.out.lt)
  have HS3:=KO (HS2.out.below hb HS2.out.lt)
  have HSD:=KO (HSC.out.below hb)
  clear hb z0 z1 z2 z3 z4 z5 z6 z7 z8 z9 z10 z11 z12 z13 z14 z15 z16 z17 z18 z19 z20 HC2 HS2 HSC HB2 HSC7 HAM HQ HV HX20 HX12 HP
  cases V with
  |true=>
   obtain rfl:R=8:=HR3.out.symm
   go_wp2_with fail
   go_ret
   exact⟨rfl,HB3.out⟩
  |false=>
  obtain⟨hmay,hseg⟩:=HMG.out (by first|rfl|trivial)
  have HR4:=KO (show(if gY c s=true then(0:Int)else 8)=R from HR3.out)
  have hci:=jv HK.out
  have hif:=aR hci HOK.out.kl HZ.out
  have hsg:=fG hmay
  rw[hseg]at hsg
  have HMAY:=KO hmay
  obtain⟨H1,hH1⟩:∃x,H+1=x:=⟨_,rfl⟩
  have hw1:IntKind.i64.wrap ((H:Int)+1)=(H1:Int):=by rw[KU _ (by have:=hif.2.2.2.1;have:=HHQ.out;omega)];omega
  rw[HHQ.out]at hif
  have HIF:=KO hif
  have HSEG:=KO hseg
  have HCI:=KO hci
  have HSG:=KO hsg
  clear hmay hseg hci hif hsg HMG HR3
  have HH1:=KO hH1
  clear hH1
  go_wp2_with fail
  clear hw1
  go_loopw [57] (fun e wr=>∃h:Nat,h<=H1/\e= .int .i64 h/\Hid (Below W.heap.size W wr)/\Hid (∀j,j< h->rH c s j=true)) (fun e _=>H1-(intOf e).toNat)
  case atStart=>exact⟨0,K8 _,rfl,KR _ _,fun j hj=>absurd hj (Nat.not_lt_zero j)⟩
  case round=>
   obtain⟨h,hh,rfl,hbr,hrow⟩:=hrel
   by_cases hlt:h< H1
   ·have i1:(h:Int)< ((H1:Nat):Int):=by omega
    have hC:=HC3.out.below hbr.out HC3.out.lt
    obtain⟨G,hG⟩:∃G,c.seg.toNat=G:=⟨_,rfl⟩
    have hGi:c.seg=(G:Int):=by have:=HCI.out.g;omega
    have q2:wr.cell? ⟨w.heap.size,2,none⟩=some (.int .i64 (G:Nat)):=(hC.cell 2).trans (by rw[<-hGi];rfl)
    obtain⟨Y,hY⟩:∃Y,G*2 ^ h=Y:=⟨_,rfl⟩
    obtain⟨K,hK⟩:∃K,s.ks.length/Y=K:=⟨_,rfl⟩
    have hnH:s.ks.length=G*2 ^ H:=by rw[<-hG];exact HIF.out.2.2.1
    have hY0:0< Y:=by rw[<-hY];exact Nat.mul_pos (by have:=HCI.out.g;omega) (MJ h)
    have hKY:K*Y=s.ks.length:=by
     have hd:Y ∣ s.ks.length:=by rw[hnH,<-hY];exact Nat.mul_dvd_mul_left _ (Nat.pow_dvd_pow 2 (by have:=HH1.out;omega))
     rw[<-hK];exact Nat.div_mul_cancel hd
    have hro:=Iw G s.ks.length h K Y wr (by have:=HCI.out.g;omega) (by have:=HCI.out.g;omega) (by rw[<-hG];exact HCI.out.pg) (by have:=HIF.out.2.2.2.2;omega) HOK.out.kl HIF.out.2.1 (by have:=HHQ.out;unfold aM at this;rw[hG]at this;have:=HH1.out;omega) hY hKY
    have HRO:=KO hro
    have HG:=KO (KW hG (KW hGi (KW hY (KW hK (KW hY0 hKY)))))
    have HLT:=KO hlt
    have HHH:=KO hh
    have hw2:=aU h (by have:=HIF.out.2.2.2.1;have:=HH1.out;omega)
    have HW2:=KO hw2
    clear hC hG hGi hY hK hnH hY0 hKY hro hlt hh hw2
    go_wp2_with fail
    refine HRO.out.mono ?_
    rintro e w4 ⟨A4,c4,rfl,ho4,hb4⟩
    have HB4:=KO (aa hbr.out hb4)
    have HSL:=KO (aA ho4)
    clear ho4 hb4 q2 HRO
    go_wp2_with fail
    go_loopw [70] (fun e wr2=>∃i:Nat,i<=K/\e= .int .i64 i/\Hid (Below w4.heap.size w4 wr2)/\Hid (∀j,j< i->Bf c s h j=true)) (fun e _=>K-(intOf e).toNat)
    case atStart=>exact⟨0,K8 _,rfl,KR _ _,fun j hj=>absurd hj (Nat.not_lt_zero j)⟩
    case round=>
     obtain⟨i,hi,rfl,hbi,hwin⟩:=hrel
     by_cases hli:i< K
     ·have i2:(i:Int)< (K:Int):=by omega
      have i3:(0:Int)<=(i:Int):=by omega
      obtain⟨b6,o6,e6,hc0,hc1⟩:=Il HSL.out hbi.out hli
      obtain rfl:=e6
      obtain⟨hG,hGi,hY,hK,hY0,hKY⟩:=HG.out
      have hB5:=aa HB4.out hbi.out
      have hC5:=HC3.out.below hB5 HC3.out.lt
      have hS5:=HS3.out.below hB5 HS3.out.lt
      obtain⟨M,hM⟩:∃M,i*Y=M:=⟨_,rfl⟩
      obtain⟨T,hT⟩:∃M,i*Y+Y=M:=⟨_,rfl⟩
      have hMT:M+Y=T:=by rw[<-hM,hT]
      have hTn:T<=s.ks.length:=by
       rw[<-hT,<-hKY]
       have:=LH Y (show i+1<=K by omega)
       rwa [ML,Mo]at this
      rw[hT]at hc1
      rw[hM]at hc0
      have ham:=fun W (hW:Below w4.heap.size w4 W)=>uy s (i*2 ^ h) ((i+1)*2 ^ h) M T W (HSD.out.below (aa HB4.out hW)) HOK.out HMAY.out HCAP.out (by rw[ML,Mo];have:=MJ h;omega) (by
        have hsg:=HSG.out
        rw[hG]at hsg
        have h1:((i+1)*2 ^ h)*G<=s.cs.length*G:=by
         rw[Mc,LQ (2 ^ h) G,hY,ML,Mo,hT,LQ s.cs.length,<-hsg.kl];exact hTn
        exact Nat.le_of_mul_le_mul_right h1 (by have:=hsg.g4;omega)) (by rw[HSEG.out,hG,Mc,LQ (2 ^ h) G,hY,hM]) (by rw[HSEG.out,hG,Mc,LQ (2 ^ h) G,hY,ML,Mo,hT])
      rw[show T-M=Y by omega]at ham
      have hcl:=eZ s.ws Y M
      have hfu:=fun W=>Eg c s.ks.length h (bf s.ws M Y) W HK.out HOK.out.kl HZ.out (by rw[HHQ.out];have:=HLT.out;have:=HH1.out;omega) (by rw[hG,hY];exact hcl)
      have hsp:=fun W=>xV c s.ks.length h (bf s.ws M Y) W HK.out HOK.out.kl HZ.out (by rw[HHQ.out];have:=HLT.out;have:=HH1.out;omega) (by rw[hG,hY];exact hcl)
      have hwb:Bf c s h i=(lZ c s.ks.length h (bf s.ws M Y)&&gI c s.ks.length h (bf s.ws M Y)):=by unfold Bf;rw[hG,hY,hM]
      obtain⟨C,hC⟩:∃C,bf s.ws M Y=C:=⟨_,rfl⟩
      rw[hC]at ham hfu hsp hwb
      obtain⟨FB,hFB⟩:∃b,lZ c s.ks.length h C=b:=⟨_,rfl⟩
      obtain⟨SB',hSB⟩:∃b,gI c s.ks.length h C=b:=⟨_,rfl⟩
      rw[hFB]at hfu hwb
      rw[hSB]at hsp hwb
      have HAM:=KO ham
      have HFU:=KO hfu
      have HSP:=KO hsp
      have HWB:=KO hwb
      have HBI:=KO hbi.out
      have HB5:=KO hB5
      have HLI:=KO hli
      have HC5:=KO hC5
      have HS5:=KO hS5
      have hw3:=aU i (by have:=HOK.out.kl;have:K<=K*Y:=Nat.le_mul_of_pos_right _ hY0;omega)
      have HW3:=KO hw3
      clear ham hfu hsp hwb hC hFB hSB hcl hG hGi hY hK hY0 hKY hB5 hM hT hMT hTn hli hw3 hi
      obtain⟨j0,r0,r1,r2,r3,r4,r5⟩:=EC hS5
      clear hC5 hS5
      have d0:wr.cell? ⟨b6,o6+i*2,none⟩=some (.int .i64 (M:Nat)):=hc0
      have d1:wr.cell? ⟨b6,o6+i*2+1,none⟩=some (.int .i64 (T:Nat)):=hc1
      clear hc0 hc1
      go_wp2_with fail
      have hba:Below w4.heap.size w4 (wr.alloc (.cells #[.int .i64 (M:Nat),.int .i64 (T:Nat)] 243)):=HBI.out.alloc HBI.out.size _
      refine(HAM.out _ hba).mono ?_
      rintro e w5 ⟨rfl,hb5⟩
      have hb6:=aa ((KR wr.heap.size wr).alloc (KS _) (.cells #[.int .i64 (M:Nat),.int .i64 (T:Nat)] 243)) hb5
      have HB6:=KO (aa HBI.out hb6)
      have HC6:=KO (HC5.out.below hb6 HC5.out.lt)
      clear hba hb5 hb6 d0 d1 r0 r1 r2 r3 r4 r5 j0 HC5 HS5 HBI
      obtain⟨i0,q0,q1,q2,q3,q4,q5,q6,q7,q8⟩:=iD HC6.out
      go_wp2_with fail
      refine(HFU.out _).mono ?_
      rintro e w6 ⟨rfl,hb7⟩
      have HB7:=KO (aa HB6.out hb7)
      have HC7:=KO (HC6.out.below hb7 HC6.out.lt)
      clear hb7 q0 q1 q2 q3 q4 q5 q6 q7 q8 i0 HC6 HB6
      obtain⟨i0,q0,q1,q2,q3,q4,q5,q6,q7,q8⟩:=iD HC7.out
      go_wp2_with fail
      refine(HSP.out _).mono ?_
      rintro e w7 ⟨rfl,hb8⟩
      have HB8:=KO (aa HB7.out hb8)
      clear hb8 q0 q1 q2 q3 q4 q5 q6 q7 q8 i0 HC7 HB7
      have hbad:(FB&&SB')=false->R=8:=fun hf=>by
       rw[<-HR4.out]
       have h1:rH c s h=false:=by
        unfold rH
        rw[HG.out.1,HG.out.2.2.1,HG.out.2.2.2.1]
        exact jy HLI.out (HWB.out.trans hf)
       have h2:gY c s=false:=by
        unfold gY
        rw[HHQ.out,HH1.out]
        exact jy HLT.out h1
       rw[h2];rfl
      have HBAD:=KO hbad
      clear hbad
      cases FB with
      |false=>
       obtain rfl:R=8:=HBAD.out (by first|rfl|trivial)
       go_wp2_with fail
       go_ret
       exact⟨rfl,aa HB3.out (aa HB4.out HB8.out)⟩
      |true=>
      cases SB' with
      |false=>
       obtain rfl:R=8:=HBAD.out (by first|rfl|trivial)
       go_wp2_with fail
       go_ret
       exact⟨rfl,aa HB3.out (aa HB4.out HB8.out)⟩
      |true=>
      go_wp2_with fail
      go_roundw
      case rel=>exact⟨i+1,HLI.out,by rw[HW3.out],HB8.out,fun j hj=>by
       rcases Nat.lt_succ_iff_lt_or_eq.1 hj with h'|h'
       ·exact hwin.out j h'
       ·rw[h',HWB.out];rfl⟩
      case measure=>exact bT _ i HLI.out HW3.out
     ·have hiK:i=K:=by omega
      have i2:¬(i:Int)< (K:Int):=by omega
      have HRW:=KO (show rH c s h=true by
       unfold rH
       rw[HG.out.1,HG.out.2.2.1,HG.out.2.2.2.1]
       exact iW fun j hj=>hwin.out j (by omega))
      have HBI:=KO hbi.out
      clear hli hiK hi
      go_wp2_with fail
      go_roundw
      case rel=>exact⟨h+1,HLT.out,by rw[HW2.out],aa HB4.out HBI.out,fun j hj=>by
       rcases Nat.lt_succ_iff_lt_or_eq.1 hj with h'|h'
       ·exact hrow.out j h'
       ·rw[h'];exact HRW.out⟩
      case measure=>exact bT _ h HLT.out HW2.out
   ·have i1:¬(h:Int)< ((H1:Nat):Int):=by omega
    obtain rfl:R=0:=by rw[<-HR4.out];unfold gY;rw[HHQ.out,HH1.out,iW fun j hj=>hrow.out j (by omega)];rfl
    have HBR:=KO hbr.out
    clear hlt hh
    go_wp2_with fail
    go_ret
    exact⟨rfl,aa HB3.out HBR.out⟩
 case hstep=>
  rintro L a W i o ho hLi hdep ⟨t33,t34,t35,t36,t37,t38,t39,t40,t41,t42,t43,t44,t45,t46,t47,t48,t49,t50,t51,t52,t53,t54,rfl,hb,f0,f1,f2,f3,f4,f5,f6,f7,f8,f9,f10,f11,f12,f13,f14,f15,f16,f17,f18,f19,f20,f21⟩
  have F0:=KO f0
  have F1:=KO f1
  have F2:=KO f2
  have F3:=KO f3
  have F4:=KO f4
  have F5:=KO f5
  have F6:=KO f6
  have F7:=KO f7
  have F8:=KO f8
  have F9:=KO f9
  have F10:=KO f10
  have F11:=KO f11
  have F12:=KO f12
  have F13:=KO f13
  have F14:=KO f14
  have F15:=KO f15
  have F16:=KO f16
  have F17:=KO f17
  have F18:=KO f18
  have F19:=KO f19
  have F20:=KO f20
  have F21:=KO f21
  have HB:=KO hb
  clear hLi hb f0 f1 f2 f3 f4 f5 f6 f7 f8 f9 f10 f11 f12 f13 f14 f15 f16 f17 f18 f19 f20 f21
  match i,ho with
  |0,ho=>
   obtain rfl:=KQ ho
   clear hdep
   refine KT rfl (fun K1 hK1=>?_)
   have hK:=KO hK1
   clear hK1
   go_wp2_with fail
   refine hK.out _ _ ?_;exact aN
  |1,ho=>
   obtain rfl:=KQ ho
   have hl0:=hdep ⟨0,.data⟩ (by simp) rfl
   clear hdep
   obtain rfl:=F0.out hl0
   refine KT rfl (fun K1 hK1=>?_)
   have hK:=KO hK1
   clear hK1
   go_wp2_with fail
   refine hK.out _ _ ?_;exact aN
  |2,ho=>
   obtain rfl:=KQ ho
   have hl1:=hdep ⟨1,.data⟩ (by simp) rfl
   clear hdep
   obtain rfl:=F1.out hl1
   refine KT rfl (fun K1 hK1=>?_)
   have hK:=KO hK1
   clear hK1
   go_wp2_with fail
   refine hK.out _ _ ?_;exact aN
  |3,ho=>
   obtain rfl:=KQ ho
   have hl2:=hdep ⟨2,.guard⟩ (by simp) rfl
   clear hdep
   obtain rfl:=F2.out hl2
   obtain⟨i0,r0,r1,r2,r3,r4,r5⟩:=EC (HS2.out.below HB.out HS2.out.lt)
   refine KT rfl (fun K1 hK1=>?_)
   have hK:=KO hK1
   clear hK1
   go_wp2_with fail
   refine hK.out _ _ ?_;exact aN
  |4,ho=>
   obtain rfl:=KQ ho
   have hl3:=hdep ⟨3,.data⟩ (by simp) rfl
   have hl2:=hdep ⟨2,.guard⟩ (by simp) rfl
   clear hdep
   obtain rfl:=F3.out hl3
   obtain rfl:=F2.out hl2
   refine KT rfl (fun K1 hK1=>?_)
   have hK:=KO hK1
   clear hK1
   go_wp2_with (go_at_call 198;refine(HSC7.out _ HB.out).mono ?_;rintro e1 W1 ⟨rfl,hb1⟩)
   refine hK.out _ _ ?_;exact aN
  |5,ho=>
   obtain rfl:=KQ ho
   have hl4:=hdep ⟨4,.data⟩ (by simp) rfl
   have hl2:=hdep ⟨2,.guard⟩ (by simp) rfl
   clear hdep
   obtain rfl:=F4.out hl4
   obtain rfl:=F2.out hl2
   have p7:=HP.out.1
   have p8:=HP.out.2.1
   refine KT rfl (fun K1 hK1=>?_)
   have hK:=KO hK1
   clear hK1
   go_wp2_with fail
   refine hK.out _ _ ?_;exact aN
  |6,ho=>
   obtain rfl:=KQ ho
   have hl2:=hdep ⟨2,.data⟩ (by simp) rfl
   have hl5:=hdep ⟨5,.data⟩ (by simp) rfl
   clear hdep
   obtain rfl:=F2.out hl2
   obtain rfl:=F5.out hl5
   refine KT rfl (fun K1 hK1=>?_)
   have hK:=KO hK1
   clear hK1
   go_wp2_with fail
   refine hK.out _ _ ?_;exact aN
  |7,ho=>
   obtain rfl:=KQ ho
   have hl6:=hdep ⟨6,.data⟩ (by simp) rfl
   clear hdep
   obtain rfl:=F6.out hl6
   refine KT rfl (fun K1 hK1=>?_)
   have hK:=KO hK1
   clear hK1
   go_wp2_with fail
   refine hK.out _ _ ?_;exact aN
  |8,ho=>
   obtain rfl:=KQ ho
   have hl7:=hdep ⟨7,.guard⟩ (by simp) rfl
   clear hdep
   obtain rfl:=F7.out hl7
   cases P
   case false=>
    refine KT rfl (fun K1 hK1=>?_)
    have hK:=KO hK1
    clear hK1
    go_wp2_with fail
    refine hK.out _ _ ?_;exact aN
   case true=>
    refine KT rfl (fun K1 hK1=>?_)
    have hK:=KO hK1
    clear hK1
    go_wp2_with fail
    refine hK.out _ _ ?_;exact aN
  |9,ho=>
   obtain rfl:=KQ ho
   have hl8:=hdep ⟨8,.data⟩ (by simp) rfl
   have hl7:=hdep ⟨7,.guard⟩ (by simp) rfl
   clear hdep
   obtain rfl:=F7.out hl7
   cases P
   case false=>
    obtain rfl:=F8.out hl8 (by first|rfl|trivial)
    have r0:W.cell? ⟨w.heap.size+1,0,none⟩=some (.int .i64 s.seg):=(HS2.out.below HB.out HS2.out.lt).cell 0
    refine KT rfl (fun K1 hK1=>?_)
    have hK:=KO hK1
    clear hK1
    go_wp2_with fail
    refine hK.out _ _ ?_;exact aN
   case true=>
    refine KT rfl (fun K1 hK1=>?_)
    have hK:=KO hK1
    clear hK1
    go_wp2_with fail
    refine hK.out _ _ ?_;exact aN
  |10,ho=>
   obtain rfl:=KQ ho
   have hl7:=hdep ⟨7,.guard⟩ (by simp) rfl
   clear hdep
   obtain rfl:=F7.out hl7
   cases P
   case false=>
    refine KT rfl (fun K1 hK1=>?_)
    have hK:=KO hK1
    clear hK1
    go_wp2_with fail
    refine hK.out _ _ ?_;exact aN
   case true=>
    refine KT rfl (fun K1 hK1=>?_)
    have hK:=KO hK1
    clear hK1
    go_wp2_with fail
    refine hK.out _ _ ?_;exact aN
  |11,ho=>
   obtain rfl:=KQ ho
   have hl10:=hdep ⟨10,.data⟩ (by simp) rfl
   have hl7:=hdep ⟨7,.guard⟩ (by simp) rfl
   clear hdep
   obtain rfl:=F7.out hl7
   cases P
   case false=>
    obtain rfl:=F10.out hl10 (by first|rfl|trivial)
    have q2:W.cell? ⟨w.heap.size,2,none⟩=some (.int .i64 c.seg):=(HC2.out.below HB.out HC2.out.lt).cell 2
    refine KT rfl (fun K1 hK1=>?_)
    have hK:=KO hK1
    clear hK1
    go_wp2_with fail
    refine hK.out _ _ ?_;exact aN
   case true=>
    refine KT rfl (fun K1 hK1=>?_)
    have hK:=KO hK1
    clear hK1
    go_wp2_with fail
    refine hK.out _ _ ?_;exact aN
  |12,ho=>
   obtain rfl:=KQ ho
   have hl9:=hdep ⟨9,.data⟩ (by simp) rfl
   have hl11:=hdep ⟨11,.data⟩ (by simp) rfl
   have hl7:=hdep ⟨7,.guard⟩ (by simp) rfl
   clear hdep
   obtain rfl:=F7.out hl7
   cases P
   case false=>
    obtain rfl:=F9.out hl9 (by first|rfl|trivial)
    obtain rfl:=F11.out hl11 (by first|rfl|trivial)
    have p7:=HX12.out.1
    have p8:=HX12.out.2
    refine KT rfl (fun K1 hK1=>?_)
    have hK:=KO hK1
    clear hK1
    go_wp2_with fail
    refine hK.out _ _ ?_;exact aN
   case true=>
    refine KT rfl (fun K1 hK1=>?_)
    have hK:=KO hK1
    clear hK1
    go_wp2_with fail
    refine hK.out _ _ ?_;exact aN
  |13,ho=>
   obtain rfl:=KQ ho
   have hl7:=hdep ⟨7,.data⟩ (by simp) rfl
   have hl12:=hdep ⟨12,.data⟩ (by simp) rfl
   clear hdep
   obtain rfl:=F7.out hl7
   cases P
   case false=>
    obtain rfl:=F12.out hl12 (by first|rfl|trivial)
    obtain rfl:Q=X12:=HQ.out.2 (by first|rfl|trivial)
    refine KT rfl (fun K1 hK1=>?_)
    have hK:=KO hK1
    clear hK1
    go_wp2_with fail
    refine hK.out _ _ ?_;exact aN
   case true=>
    obtain rfl:Q=true:=HQ.out.1 (by first|rfl|trivial)
    refine KT rfl (fun K1 hK1=>?_)
    have hK:=KO hK1
    clear hK1
    go_wp2_with fail
    refine hK.out _ _ ?_;exact aN
  |14,ho=>
   obtain rfl:=KQ ho
   have hl13:=hdep ⟨13,.data⟩ (by simp) rfl
   clear hdep
   obtain rfl:=F13.out hl13
   refine KT rfl (fun K1 hK1=>?_)
   have hK:=KO hK1
   clear hK1
   go_wp2_with fail
   refine hK.out _ _ ?_;exact aN
  |15,ho=>
   obtain rfl:=KQ ho
   have hl14:=hdep ⟨14,.guard⟩ (by simp) rfl
   clear hdep
   obtain rfl:=F14.out hl14
   cases Q
   case false=>
    obtain⟨i0,r0,r1,r2,r3,r4,r5⟩:=EC (HS2.out.below HB.out HS2.out.lt)
    refine KT rfl (fun K1 hK1=>?_)
    have hK:=KO hK1
    clear hK1
    go_wp2_with fail
    refine hK.out _ _ ?_;exact aN
   case true=>
    refine KT rfl (fun K1 hK1=>?_)
    have hK:=KO hK1
    clear hK1
    go_wp2_with fail
    refine hK.out _ _ ?_;exact aN
  |16,ho=>
   obtain rfl:=KQ ho
   have hl14:=hdep ⟨14,.guard⟩ (by simp) rfl
   clear hdep
   obtain rfl:=F14.out hl14
   cases Q
   case false=>
    refine KT rfl (fun K1 hK1=>?_)
    have hK:=KO hK1
    clear hK1
    go_wp2_with fail
    refine hK.out _ _ ?_;exact aN
   case true=>
    refine KT rfl (fun K1 hK1=>?_)
    have hK:=KO hK1
    clear hK1
    go_wp2_with fail
    refine hK.out _ _ ?_;exact aN
  |17,ho=>
   obtain rfl:=KQ ho
   have hl15:=hdep ⟨15,.data⟩ (by simp) rfl
   have hl16:=hdep ⟨16,.data⟩ (by simp) rfl
   have hl14:=hdep ⟨14,.guard⟩ (by simp) rfl
   clear hdep
   obtain rfl:=F14.out hl14
   cases Q
   case false=>
    obtain rfl:=F15.out hl15 (by first|rfl|trivial)
    obtain rfl:=F16.out hl16 (by first|rfl|trivial)
    refine KT rfl (fun K1 hK1=>?_)
    have hK:=KO hK1
    clear hK1
    go_wp2_with (go_at_call 199;refine(HAM.out (by first|rfl|trivial) _ HB.out).mono ?_;rintro e1 W1 ⟨rfl,hb1⟩)
    refine hK.out _ _ ?_;exact aN
   case true=>
    refine KT rfl (fun K1 hK1=>?_)
    have hK:=KO hK1
    clear hK1
    go_wp2_with fail
    refine hK.out _ _ ?_;exact aN
  |18,ho=>
   obtain rfl:=KQ ho
   have hl14:=hdep ⟨14,.guard⟩ (by simp) rfl
   clear hdep
   obtain rfl:=F14.out hl14
   cases Q
   case false=>
    refine KT rfl (fun K1 hK1=>?_)
    have hK:=KO hK1
    clear hK1
    go_wp2_with fail
    refine hK.out _ _ ?_;exact aN
   case true=>
    refine KT rfl (fun K1 hK1=>?_)
    have hK:=KO hK1
    clear hK1
    go_wp2_with fail
    refine hK.out _ _ ?_;exact aN
  |19,ho=>
   obtain rfl:=KQ ho
   have hl18:=hdep ⟨18,.data⟩ (by simp) rfl
   have hl14:=hdep ⟨14,.guard⟩ (by simp) rfl
   clear hdep
   obtain rfl:=F14.out hl14
   cases Q
   case false=>
    obtain rfl:=F18.out hl18 (by first|rfl|trivial)
    have q2:W.cell? ⟨w.heap.size,1,none⟩=some (.int .i64 c.most):=(HC2.out.below HB.out HC2.out.lt).cell 1
    refine KT rfl (fun K1 hK1=>?_)
    have hK:=KO hK1
    clear hK1
    go_wp2_with fail
    refine hK.out _ _ ?_;exact aN
   case true=>
    refine KT rfl (fun K1 hK1=>?_)
    have hK:=KO hK1
    clear hK1
    go_wp2_with fail
    refine hK.out _ _ ?_;exact aN
  |20,ho=>
   obtain rfl:=KQ ho
   have hl17:=hdep ⟨17,.data⟩ (by simp) rfl
   have hl19:=hdep ⟨19,.data⟩ (by simp) rfl
   have hl14:=hdep ⟨14,.guard⟩ (by simp) rfl
   clear hdep
   obtain rfl:=F14.out hl14
   cases Q
   case false=>
    obtain rfl:=F17.out hl17 (by first|rfl|trivial)
    obtain rfl:=F19.out hl19 (by first|rfl|trivial)
    have p7:=HX20.out
    refine KT rfl (fun K1 hK1=>?_)
    have hK:=KO hK1
    clear hK1
    go_wp2_with fail
    refine hK.out _ _ ?_;exact aN
   case true=>
    refine KT rfl (fun K1 hK1=>?_)
    have hK:=KO hK1
    clear hK1
    go_wp2_with fail
    refine hK.out _ _ ?_;exact aN
  |21,ho=>
   obtain rfl:=KQ ho
   have hl14:=hdep ⟨14,.data⟩ (by simp) rfl
   have hl20:=hdep ⟨20,.data⟩ (by simp) rfl
   clear hdep
   obtain rfl:=F14.out hl14
   cases Q
   case false=>
    obtain rfl:=F20.out hl20 (by first|rfl|trivial)
    obtain rfl:V=X20:=HV.out.2 (by first|rfl|trivial)
    refine KT rfl (fun K1 hK1=>?_)
    have hK:=KO hK1
    clear hK1
    go_wp2_with fail
    refine hK.out _ _ ?_;exact aN
   case true=>
    obtain rfl:V=true:=HV.out.1 (by first|rfl|trivial)
    refine KT rfl (fun K1 hK1=>?_)
    have hK:=KO hK1
    clear hK1
    go_wp2_with fail
    refine hK.out _ _ ?_;exact aN
theorem FX (c:Cfg) (n:Nat) (w:World) (hk:lW c=true) (hn:n<=300):
  Calls prog 149 #[.agg c.row,.int .i64 (n:Nat)] w fun r w'=>r= .returned (.bool (uh c n))/\Below w.heap.size w w':=by
 have hc:=jv hk
 have htk:=fun W=>pK c _ _ _ _ W (yS hc)
 rw[LZ (by have:=hc.m;omega)]at htk
 change ∀W,Calls _ _ _ W (fun r w'=>r= .returned (.int .i64 (Am c:Nat))/\_)at htk
 have hpw:=fun W=>(lh (n:Int) c.least (Am c) W (by intro _;omega)).mono (R':=fun r w'=>r= .returned (.bool (uh c n))/\Below W.heap.size W w') (fun r w' h=>⟨h.1,h.2 ▸ KR _ _⟩)
 obtain⟨C,hC⟩:∃C,Am c=C:=⟨_,rfl⟩
 obtain⟨Z,hZ⟩:∃C,uh c n=C:=⟨_,rfl⟩
 rw[hC]at htk hpw
 rw[hZ]at hpw ⊢
 have HT:=KO htk
 have HP:=KO hpw
 obtain⟨W0,hW0,hb0,b0⟩:=xn w c
 have HW0:=KO hW0
 have HB0:=KO hb0
 clear hW0 hb0 hC hZ htk hpw hc hk hn
 obtain⟨i0,q0,q1,q2,q3,q4,q5,q6,q7,q8⟩:=iD b0
 clear b0
 go_enter func149,ntmps149
 go_upto_region 1 with fail
 rw[HW0.out]
 go_region_held3 (fun w'=>(∀bq jq,bq< W0.heap.size->w'.cell? ⟨bq,jq,none⟩=W0.cell? ⟨bq,jq,none⟩)/\(∀bq jq,bq< W0.heap.size->w'.frozen? ⟨bq,jq,none⟩=W0.frozen? ⟨bq,jq,none⟩)/\W0.heap.size<=w'.heap.size/\Below W0.heap.size W0 w') ((with_reducible first|exact SB.init|exact SB.init0|exact SB.alloc _ (by assumption)|exact SB.allocD _ (by assumption)|exact SB.below (by assumption) (by assumption)|assumption))
  (first
   |(go_at_call 139;refine(HT.out _).mono ?_;rintro e21 v21 ⟨rfl,hv21⟩;have hl21:=SB.le hv21 (by assumption);obtain⟨hc21,hz21,hs21⟩:=dE hv21)
   |(go_at_call 137;refine(HP.out _).mono ?_;rintro e22 v22 ⟨rfl,hv22⟩;have hl22:=SB.le hv22 (by assumption);obtain⟨hc22,hz22,hs22⟩:=dE hv22)
   |fail "no arm")
 all_goals
  rename_i hq
  have HB2:=KO (aa HB0.out (SB.bel hq))
  go_wp2_with fail
  go_ret
  exact⟨rfl,HB2.out⟩
theorem mJ (c:Cfg) (g h Y:Nat) (w:World) (hg:c.seg=(g:Int)) (hh:h<=7) (hY:g*2 ^ h=Y) (hb:Y<=1000000):
  Calls prog 165 #[.agg c.row,.int .i64 (h:Nat)] w fun r w'=>r= .returned (.int .i64 (Y:Nat))/\Below w.heap.size w w':=by
 have hpo:=fun W=>jO h W (by omega)
 obtain⟨P,hP⟩:∃P,2 ^ h=P:=⟨_,rfl⟩
 rw[hP]at hpo hY
 have hw:IntKind.i64.wrap ((g:Int)*(P:Int))=(Y:Int):=by
  rw[show(g:Int)*(P:Int)=(Y:Int)by rw[<-hY,Int.natCast_mul]]
  exact KU _ (by omega)
 have HPO:=KO hpo
 obtain⟨W0,hW0,hb0,b0⟩:=xn w c
 have HW0:=KO hW0
 have HB0:=KO hb0
 have q2:W0.cell? ⟨w.heap.size,2,none⟩=some (.int .i64 (g:Int)):=(b0.cell 2).trans (by rw[<-hg];rfl)
 clear hW0 hb0 b0 hg hpo hP hY hb hh
 go_enter func165,ntmps165
 go_upto_region 1 with fail
 rw[HW0.out]
 go_quiet ((go_at_call 154;exact LJ (HPO.out _)))
 go_wp2_with fail
 go_ret
 exact⟨rfl,aa HB0.out (ay (KR _ _) _)⟩
theorem yt (c:Cfg) (n h m:Nat) (w:World) (hk:lW c=true) (hn:n<=300) (hi:uh c n=true) (hh:h<=aM c n) (hm:m<=c.seg.toNat*2 ^ h):
  Calls prog 166 #[.agg c.row,.int .i64 (n:Nat),.int .i64 (h:Nat),.int .i64 (m:Nat)] w fun r w'=>r= .returned (.bool (lZ c n h m))/\Below w.heap.size w w':=by
 have hc:=jv hk
 have hH6:=(aR hc hn hi).2.2.2.1
 have hm9:m<=300:=by
  have h1:=(aR hc hn hi).2.2.1
  have h2:c.seg.toNat*2 ^ h<=c.seg.toNat*2 ^ aM c n:=ME _ (Lj (n:=2) (by decide) hh)
  omega
 have hY9:c.seg.toNat*2 ^ h<=300:=by
  have h1:=(aR hc hn hi).2.2.1
  have h2:c.seg.toNat*2 ^ h<=c.seg.toNat*2 ^ aM c n:=ME _ (Lj (n:=2) (by decide) hh)
  omega
 have hht:=fun W=>iw c n c.seg.toNat W (by have:=hc.g;omega) (by omega) (by have:=hc.g;omega) (aR hc hn hi).2.2.2.2
 change ∀W,Calls _ _ _ W (fun r w'=>r= .returned (.int .i64 (aM c n:Nat))/\_)at hht
 have hwd:=fun W=>mJ c c.seg.toNat h _ W (by have:=hc.g;omega) (by omega) rfl (by omega)
 obtain⟨V,hV⟩:∃V,lZ c n h m=V:=⟨_,rfl⟩
 rw[hV]
 unfold lZ nU Ci at hV
 rw[LZ (by have:=hc.d;omega)]at hV
 obtain⟨Y,hY⟩:∃Y,c.seg.toNat*2 ^ h=Y:=⟨_,rfl⟩
 obtain⟨H,hH⟩:∃C,aM c n=C:=⟨_,rfl⟩
 rw[hY]at hwd hY9 hV
 rw[hH]at hht hH6 hh hV
 have HHT:=KO hht
 have HWD:=KO hwd
 have HV:=KO hV
 have hd:=hc.d
 have ho:=hc.o
 obtain⟨W0,hW0,hb0,b0⟩:=xn w c
 have HW0:=KO hW0
 have HB0:=KO hb0
 have HC0:=KO b0
 clear hW0 hb0 hY hH hc hk hn hi hm hht hwd hV
 have HN:=KO (KW hH6 (KW hm9 (KW hY9 (KW hd (KW ho hh)))))
 clear hH6 hm9 hY9 hd ho hh
 obtain⟨i0,q0,q1,q2,q3,q4,q5,q6,q7,q8⟩:=iD b0
 clear b0
 go_enter func166,ntmps166
 go_upto_region 1 with fail
 rw[HW0.out]
 go_wp2_with fail
 refine(HHT.out _).mono ?_
 rintro e w1 ⟨rfl,hb1⟩
 have HB1:=KO (aa HB0.out hb1)
 have bC1:=HC0.out.below hb1 HC0.out.lt
 clear hb1 q0 q1 q2 q3 q4 q5 q6 q7 q8 i0 HW0 HB0 HC0
 obtain⟨i0,q0,q1,q2,q3,q4,q5,q6,q7,q8⟩:=iD bC1
 clear bC1
 obtain⟨p1,p2,p3,p4,p5,p6⟩:=HN.out
 by_cases hz:H=0
 ·have hi0:(H:Int)=0:=by omega
  have hh0:h=0:=by omega
  have b1:=bU (x:=(m:Int)) (y:=c.den) (n:=300) (m:=64) (by omega) (by omega)
  have b2:=bU (x:=(Y:Int)) (y:=c.rootHigh) (n:=300) (m:=64) (by omega) (by omega)
  have hv:=HV.out
  rw[if_neg (by omega),if_neg (by omega)]at hv
  obtain⟨x1,e1⟩:∃x,(m:Int)*c.den=x:=⟨_,rfl⟩
  obtain⟨x2,e2⟩:∃x,(Y:Int)*c.rootHigh=x:=⟨_,rfl⟩
  rw[e1]at b1 hv
  rw[e2]at b2 hv
  have y1:IntKind.i64.wrap ((m:Int)*c.den)=x1:=by rw[e1];exact KU _ (by omega)
  have y2:IntKind.i64.wrap ((Y:Int)*c.rootHigh)=x2:=by rw[e2];exact KU _ (by omega)
  have HR:=KO hv
  clear e1 e2 b1 b2 hv p1 p2 p3 p4 p5 p6 hz hh0
  go_upto_region 3 with fail
  go_region_held3 (fun w'=>(∀bq jq,bq< w1.heap.size->w'.cell? ⟨bq,jq,none⟩=w1.cell? ⟨bq,jq,none⟩)/\(∀bq jq,bq< w1.heap.size->w'.frozen? ⟨bq,jq,none⟩=w1.frozen? ⟨bq,jq,none⟩)/\w1.heap.size<=w'.heap.size/\Below w1.heap.size w1 w') ((with_reducible first|exact SB.init|exact SB.init0|exact SB.alloc _ (by assumption)|exact SB.allocD _ (by assumption)|exact SB.below (by assumption) (by assumption)|assumption))
    (first
     |(go_at_call 165;refine(HWD.out _).mono ?_;rintro e21 v21 ⟨rfl,hv21⟩;have hl21:=SB.le hv21 (by assumption);obtain⟨hc21,hz21,hs21⟩:=dE hv21)
     |fail "no arm")
  all_goals
   rename_i hq
   have HB2:=KO (aa HB1.out (SB.bel hq))
   go_wp2_with fail
   go_ret
   exact⟨by first|exact rfl|(rw[HR.out];exact rfl),HB2.out⟩
 ·have hi0:¬(H:Int)=0:=by omega
  have hv:=HV.out
  rw[if_pos (by omega),if_pos (by omega)]at hv
  have a1:=bU (x:=(m:Int)) (y:=(H:Int)) (n:=301) (m:=6) (by omega) (by omega)
  obtain⟨x1,e1⟩:∃x,(m:Int)*(H:Int)=x:=⟨_,rfl⟩
  rw[e1]at a1
  have a2:=bU (x:=x1) (y:=c.den) (n:=301*6) (m:=64) (by omega) (by omega)
  obtain⟨x2,e2⟩:∃x,x1*c.den=x:=⟨_,rfl⟩
  rw[e2]at a2
  obtain⟨x3,e3⟩:∃x,(H:Int)-(h:Int)=x:=⟨_,rfl⟩
  have a4:=bU (x:=c.leafHigh) (y:=x3) (n:=64) (m:=6) (by omega) (by omega)
  obtain⟨x4,e4⟩:∃x,c.leafHigh*x3=x:=⟨_,rfl⟩
  rw[e4]at a4
  have a5:=bU (x:=c.rootHigh) (y:=(h:Int)) (n:=64) (m:=6) (by omega) (by omega)
  obtain⟨x5,e5⟩:∃x,c.rootHigh*(h:Int)=x:=⟨_,rfl⟩
  rw[e5]at a5
  obtain⟨x6,e6⟩:∃x,x4+x5=x:=⟨_,rfl⟩
  have a7:=bU (x:=(Y:Int)) (y:=x6) (n:=300) (m:=1000) (by omega) (by omega)
  obtain⟨x7,e7⟩:∃x,(Y:Int)*x6=x:=⟨_,rfl⟩
  rw[e7]at a7
  have y1:IntKind.i64.wrap ((m:Int)*(H:Int))=x1:=by rw[e1];exact KU _ (by omega)
  have y2:IntKind.i64.wrap (x1*c.den)=x2:=by rw[e2];exact KU _ (by omega)
  have y3:IntKind.i64.wrap ((H:Int)-(h:Int))=x3:=by rw[e3];exact KU _ (by omega)
  have y4:IntKind.i64.wrap (c.leafHigh*x3)=x4:=by rw[e4];exact KU _ (by omega)
  have y5:IntKind.i64.wrap (c.rootHigh*(h:Int))=x5:=by rw[e5];exact KU _ (by omega)
  have y6:IntKind.i64.wrap (x4+x5)=x6:=by rw[e6];exact KU _ (by omega)
  have y7:IntKind.i64.wrap ((Y:Int)*x6)=x7:=by rw[e7];exact KU _ (by omega)
  have HE1:(m:Int)*(c.den*(H:Int))=x2:=by rw[<-e2,<-e1,Int.mul_assoc,Int.mul_comm c.den]
  have HE2:(Y:Int)*(c.leafHigh*(H:Int)+(c.rootHigh-c.leafHigh)*(h:Int))=x7:=by rw[<-e7,<-e6,<-e4,<-e3,<-e5,Int.mul_sub,Int.sub_mul];congr 1;omega
  rw[HE1,HE2]at hv
  have HR:=KO hv
  clear hv HE1 HE2 e1 e2 e3 e4 e5 e6 e7 a1 a2 a4 a5 a7 p1 p2 p3 p4 p5 p6 hz
  go_upto_region 4 with fail
  go_region_held3 (fun w'=>(∀bq jq,bq< w1.heap.size->w'.cell? ⟨bq,jq,none⟩=w1.cell? ⟨bq,jq,none⟩)/\(∀bq jq,bq< w1.heap.size->w'.frozen? ⟨bq,jq,none⟩=w1.frozen? ⟨bq,jq,none⟩)/\w1.heap.size<=w'.heap.size/\Below w1.heap.size w1 w') ((with_reducible first|exact SB.init|exact SB.init0|exact SB.alloc _ (by assumption)|exact SB.allocD _ (by assumption)|exact SB.below (by assumption) (by assumption)|assumption))
    (first
     |(go_at_call 165;refine(HWD.out _).mono ?_;rintro e21 v21 ⟨rfl,hv21⟩;have hl21:=SB.le hv21 (by assumption);obtain⟨hc21,hz21,hs21⟩:=dE hv21)
     |fail "no arm")
  all_goals
   rename_i hq
   have HB2:=KO (aa HB1.out (SB.bel hq))
   go_wp2_with fail
   go_ret
   exact⟨by first|exact rfl|(rw[HR.out];exact rfl),HB2.out⟩
theorem Ar (c:Cfg) (n h m:Nat) (w:World) (hk:lW c=true) (hn:n<=300) (hi:uh c n=true) (hh:h<=aM c n) (hm:m<=c.seg.toNat*2 ^ h):
  Calls prog 167 #[.agg c.row,.int .i64 (n:Nat),.int .i64 (h:Nat),.int .i64 (m:Nat)] w fun r w'=>r= .returned (.bool (gI c n h m))/\Below w.heap.size w w':=by
 have hc:=jv hk
 have hH6:=(aR hc hn hi).2.2.2.1
 have hm9:m<=300:=by
  have h1:=(aR hc hn hi).2.2.1
  have h2:c.seg.toNat*2 ^ h<=c.seg.toNat*2 ^ aM c n:=ME _ (Lj (n:=2) (by decide) hh)
  omega
 have hY9:c.seg.toNat*2 ^ h<=300:=by
  have h1:=(aR hc hn hi).2.2.1
  have h2:c.seg.toNat*2 ^ h<=c.seg.toNat*2 ^ aM c n:=ME _ (Lj (n:=2) (by decide) hh)
  omega
 have hht:=fun W=>iw c n c.seg.toNat W (by have:=hc.g;omega) (by omega) (by have:=hc.g;omega) (aR hc hn hi).2.2.2.2
 change ∀W,Calls _ _ _ W (fun r w'=>r= .returned (.int .i64 (aM c n:Nat))/\_)at hht
 have hwd:=fun W=>mJ c c.seg.toNat h _ W (by have:=hc.g;omega) (by omega) rfl (by omega)
 obtain⟨V,hV⟩:∃V,gI c n h m=V:=⟨_,rfl⟩
 rw[hV]
 unfold gI nU Ci at hV
 rw[LZ (by have:=hc.d;omega)]at hV
 obtain⟨Y,hY⟩:∃Y,c.seg.toNat*2 ^ h=Y:=⟨_,rfl⟩
 obtain⟨H,hH⟩:∃C,aM c n=C:=⟨_,rfl⟩
 rw[hY]at hwd hY9 hV
 rw[hH]at hht hH6 hh hV
 have HHT:=KO hht
 have HWD:=KO hwd
 have HV:=KO hV
 have HP0:=KO (show¬(n:Int)=c.least->0< H from fun hne=>by
  rcases Nat.eq_zero_or_pos H with h0|h0
  ·have h1:=(aR hc hn hi).2.2.1
   rw[hH,h0]at h1
   have h2:=(aR hc hn hi).1
   have h3:=hc.l
   have h4:=hc.g
   omega
  ·exact h0)
 have hd:=hc.d
 have ho:=hc.o
 obtain⟨W0,hW0,hb0,b0⟩:=xn w c
 have HW0:=KO hW0
 have HB0:=KO hb0
 have HC0:=KO b0
 clear hW0 hb0 hY hH hc hk hn hi hm hht hwd hV
 have HN:=KO (KW hH6 (KW hm9 (KW hY9 (KW hd (KW ho hh)))))
 clear hH6 hm9 hY9 hd ho hh
 obtain⟨i0,q0,q1,q2,q3,q4,q5,q6,q7,q8⟩:=iD b0
 clear b0
 go_enter func167,ntmps167
 go_upto_region 1 with fail
 rw[HW0.out]
 go_wp2_with fail
 refine(HHT.out _).mono ?_
 rintro e w1 ⟨rfl,hb1⟩
 have HB1:=KO (aa HB0.out hb1)
 have bC1:=HC0.out.below hb1 HC0.out.lt
 clear hb1 q0 q1 q2 q3 q4 q5 q6 q7 q8 i0 HW0 HB0 HC0
 obtain⟨i0,q0,q1,q2,q3,q4,q5,q6,q7,q8⟩:=iD bC1
 clear bC1
 obtain⟨p1,p2,p3,p4,p5,p6⟩:=HN.out
 by_cases he:(n:Int)=c.least
 ·have he2:decide ((n:Int)=c.least)=true:=decide_eq_true he
  have HR:=KO (show V=true by rw[<-HV.out,he2];rfl)
  clear p1 p2 p3 p4 p5 p6
  go_upto_region 2 with fail
  go_quiet (fail)
  go_wp2_with fail
  go_ret
  exact⟨by first|exact rfl|(rw[HR.out];exact rfl),aa HB1.out (ay (KR _ _) _)⟩
 ·have he2:decide ((n:Int)=c.least)=false:=decide_eq_false he
  have he3:((n:Int)==c.least)=false:=beq_eq_false_iff_ne.2 he
  have hH0:0< H:=HP0.out he
  have hv:=HV.out
  rw[he2,Bool.false_or,if_pos hH0,if_pos hH0]at hv
  have hwm:IntKind.i64.wrap ((m:Int)+1)=((m+1:Nat):Int):=by rw[KU _ (by omega)];omega
  have hm2:m+1<=301:=by omega
  obtain⟨m1,hm1⟩:∃x,m+1=x:=⟨_,rfl⟩
  rw[hm1]at hwm hv hm2
  clear hm1
  have a1:=bU (x:=(m1:Int)) (y:=(H:Int)) (n:=301) (m:=6) (by omega) (by omega)
  obtain⟨x1,e1⟩:∃x,(m1:Int)*(H:Int)=x:=⟨_,rfl⟩
  rw[e1]at a1
  have a2:=bU (x:=x1) (y:=c.den) (n:=301*6) (m:=64) (by omega) (by omega)
  obtain⟨x2,e2⟩:∃x,x1*c.den=x:=⟨_,rfl⟩
  rw[e2]at a2
  obtain⟨x3,e3⟩:∃x,(H:Int)-(h:Int)=x:=⟨_,rfl⟩
  have a4:=bU (x:=c.leafLow) (y:=x3) (n:=64) (m:=6) (by omega) (by omega)
  obtain⟨x4,e4⟩:∃x,c.leafLow*x3=x:=⟨_,rfl⟩
  rw[e4]at a4
  have a5:=bU (x:=c.rootLow) (y:=(h:Int)) (n:=64) (m:=6) (by omega) (by omega)
  obtain⟨x5,e5⟩:∃x,c.rootLow*(h:Int)=x:=⟨_,rfl⟩
  rw[e5]at a5
  obtain⟨x6,e6⟩:∃x,x4+x5=x:=⟨_,rfl⟩
  have a7:=bU (x:=(Y:Int)) (y:=x6) (n:=300) (m:=1000) (by omega) (by omega)
  obtain⟨x7,e7⟩:∃x,(Y:Int)*x6=x:=⟨_,rfl⟩
  rw[e7]at a7
  have y1:IntKind.i64.wrap ((m1:Int)*(H:Int))=x1:=by rw[e1];exact KU _ (by omega)
  have y2:IntKind.i64.wrap (x1*c.den)=x2:=by rw[e2];exact KU _ (by omega)
  have y3:IntKind.i64.wrap ((H:Int)-(h:Int))=x3:=by rw[e3];exact KU _ (by omega)
  have y4:IntKind.i64.wrap (c.leafLow*x3)=x4:=by rw[e4];exact KU _ (by omega)
  have y5:IntKind.i64.wrap (c.rootLow*(h:Int))=x5:=by rw[e5];exact KU _ (by omega)
  have y6:IntKind.i64.wrap (x4+x5)=x6:=by rw[e6];exact KU _ (by omega)
  have y7:IntKind.i64.wrap ((Y:Int)*x6)=x7:=by rw[e7];exact KU _ (by omega)
  have HE1:(m1:Int)*(c.den*(H:Int))=x2:=by rw[<-e2,<-e1,Int.mul_assoc,Int.mul_comm c.den]
  have HE2:(Y:Int)*(c.leafLow*(H:Int)+(c.rootLow-c.leafLow)*(h:Int))=x7:=by rw[<-e7,<-e6,<-e4,<-e3,<-e5,Int.mul_sub,Int.sub_mul];congr 1;omega
  rw[HE1,HE2]at hv
  have HR:=KO hv
  clear hv HE1 HE2 e1 e2 e3 e4 e5 e6 e7 a1 a2 a4 a5 a7 p1 p2 p3 p4 p5 p6 hm2 he hH0
  go_upto_region 2 with fail
  go_region_held3 (fun w'=>(∀bq jq,bq< w1.heap.size->w'.cell? ⟨bq,jq,none⟩=w1.cell? ⟨bq,jq,none⟩)/\(∀bq jq,bq< w1.heap.size->w'.frozen? ⟨bq,jq,none⟩=w1.frozen? ⟨bq,jq,none⟩)/\w1.heap.size<=w'.heap.size/\Below w1.heap.size w1 w') ((with_reducible first|exact SB.init|exact SB.init0|exact SB.alloc _ (by assumption)|exact SB.allocD _ (by assumption)|exact SB.below (by assumption) (by assumption)|assumption))
    (first
     |(go_at_call 165;refine(HWD.out _).mono ?_;rintro e21 v21 ⟨rfl,hv21⟩;have hl21:=SB.le hv21 (by assumption);obtain⟨hc21,hz21,hs21⟩:=dE hv21)
     |fail "no arm")
  all_goals
   rename_i hq
   have HB2:=KO (aa HB1.out (SB.bel hq))
   go_wp2_with fail
   go_ret
   exact⟨by first|exact rfl|(rw[HR.out];exact rfl),HB2.out⟩
theorem uZ (c:Cfg) (w:World):Calls prog 115 #[.agg c.row] w fun r w'=>r= .returned (.bool (lW c))/\Below w.heap.size w w':=by
 obtain⟨W0,hW0⟩:∃W0,w.alloc (.cells c.row 24)=W0:=⟨_,rfl⟩
 have hb0:Below w.heap.size w W0:=by rw[<-hW0];exact(KR _ _).alloc (KS _) _
 have b0:Blk W0 w.heap.size 24 c.row:=by rw[<-hW0];exact Blk.new _ _ _
 have HW0:=KO hW0
 have HB0:=KO hb0
 have HC0:=KO b0
 have hp1:=fun W=>lh c.seg 4 64 W (by omega)
 have hp2:=fun W=>lh c.least c.seg 256 W (by omega)
 obtain⟨t4,h4⟩:∃t,gU c.seg 4 64=t:=⟨_,rfl⟩
 obtain⟨t5,h5⟩:∃t,gU c.least c.seg 256=t:=⟨_,rfl⟩
 rw[h4]at hp1
 rw[h5]at hp2
 obtain⟨V,hV⟩:∃V,lW c=V:=⟨_,rfl⟩
 rw[hV]
 have hno1:∀b∈iH c,b=false->V=false:=fun b hb h=>by
  rw[<-hV];unfold lW
  rw[show(iH c).all id=false from by rw[List.all_eq_false];exact⟨b,hb,by rw[h];simp⟩];rfl
 have hno2:∀b∈jm c,b=false->V=false:=fun b hb h=>by
  rw[<-hV];unfold lW
  rw[show(jm c).all id=false from by rw[List.all_eq_false];exact⟨b,hb,by rw[h];simp⟩,Bool.and_false];rfl
 have hno3:∀b∈mi c,b=false->V=false:=fun b hb h=>by
  rw[<-hV];unfold lW
  rw[show(mi c).all id=false from by rw[List.all_eq_false];exact⟨b,hb,by rw[h];simp⟩,Bool.and_false];rfl
 unfold iH at hno1
 unfold jm at hno2
 unfold mi at hno3
 rw[h4,h5]at hno1
 have HV:=KO hV
 have HP1:=KO hp1
 have HP2:=KO hp2
 have H4:=KO h4
 have H5:=KO h5
 have N1:=KO hno1
 have N2:=KO hno2
 have N3:=KO hno3
 clear hW0 hb0 hp1 hp2 h4 h5 hV hno1 hno2 hno3
 have q0:=b0.cell
 have i0:=b0.lt
 clear b0
 go_enter func115,ntmps115
 go_upto_region 1 with fail
 rw[HW0.out]
 by_cases a1:c.tag< 1
 case pos=>
  have HF:Hid (V=false):=N1.out _ (LY) (decide_eq_false (by omega))
  go_wp2_with fail
  go_ret
  exact⟨by rw[HF.out];rfl,HB0.out⟩
 case neg=>
 by_cases a2:3< c.tag
 case pos=>
  have HF:Hid (V=false):=N1.out _ (K4 _ (LY)) (decide_eq_false (by omega))
  go_wp2_with fail
  go_ret
  exact⟨by rw[HF.out];rfl,HB0.out⟩
 case neg=>
 by_cases a3:c.most< 1
 case pos=>
  have HF:Hid (V=false):=N1.out _ (K4 _ (K4 _ (LY))) (decide_eq_false (by omega))
  go_wp2_with fail
  go_ret
  exact⟨by rw[HF.out];rfl,HB0.out⟩
 case neg=>
 by_cases a4:16384< c.most
 case pos=>
  have HF:Hid (V=false):=N1.out _ (K4 _ (K4 _ (K4 _ (LY)))) (decide_eq_false (by omega))
  go_wp2_with fail
  go_ret
  exact⟨by rw[HF.out];rfl,HB0.out⟩
 case neg=>
 go_wp2_with fail
 refine(HP1.out _).mono ?_
 rintro e v1 ⟨rfl,hv1⟩
 subst hv1
 cases hb1:t4 with
 |false=>
  have HF:Hid (V=false):=N1.out _ (K4 _ (K4 _ (K4 _ (K4 _ (LY))))) hb1
  go_wp2_with fail
  go_ret
  exact⟨by rw[HF.out];rfl,HB0.out⟩
 |true=>
 go_wp2_with fail
 refine(HP2.out _).mono ?_
 rintro e v2 ⟨rfl,hv2⟩
 subst hv2
 cases hb2:t5 with
 |false=>
  have HF:Hid (V=false):=N1.out _ (K4 _ (K4 _ (K4 _ (K4 _ (K4 _ (LY)))))) hb2
  go_wp2_with fail
  go_ret
  exact⟨by rw[HF.out];rfl,HB0.out⟩
 |true=>
 by_cases a7:c.den< 1
 case pos=>
  have HF:Hid (V=false):=N1.out _ (K4 _ (K4 _ (K4 _ (K4 _ (K4 _ (K4 _ (LY))))))) (decide_eq_false (by omega))
  go_wp2_with fail
  go_ret
  exact⟨by rw[HF.out];rfl,HB0.out⟩
 case neg=>
 by_cases a8:64< c.den
 case pos=>
  have HF:Hid (V=false):=N1.out _ (K4 _ (K4 _ (K4 _ (K4 _ (K4 _ (K4 _ (K4 _ (LY)))))))) (decide_eq_false (by omega))
  go_wp2_with fail
  go_ret
  exact⟨by rw[HF.out];rfl,HB0.out⟩
 case neg=>
 by_cases b1:c.leafLow< 0
 case pos=>
  have HF:Hid (V=false):=N2.out _ (LY) (decide_eq_false (by omega))
  go_wp2_with fail
  go_ret
  exact⟨by rw[HF.out];rfl,HB0.out⟩
 case neg=>
 by_cases b2:c.rootLow<=c.leafLow
 case pos=>
  have HF:Hid (V=false):=N2.out _ (K4 _ (LY)) (decide_eq_false (by omega))
  go_wp2_with fail
  go_ret
  exact⟨by rw[HF.out];rfl,HB0.out⟩
 case neg=>
 by_cases b4:c.leafHigh<=c.rootHigh
 case pos=>
  have HF:Hid (V=false):=N2.out _ (K4 _ (K4 _ (K4 _ (LY)))) (decide_eq_false (by omega))
  go_wp2_with fail
  go_ret
  exact⟨by rw[HF.out];rfl,HB0.out⟩
 case neg=>
 by_cases b5:c.den< c.leafHigh
 case pos=>
  have HF:Hid (V=false):=N2.out _ (K4 _ (K4 _ (K4 _ (K4 _ (LY))))) (decide_eq_false (by omega))
  go_wp2_with fail
  go_ret
  exact⟨by rw[HF.out];rfl,HB0.out⟩
 case neg=>
 by_cases b6:c.den< c.rootLow
 case pos=>
  have HF:Hid (V=false):=N3.out _ (K4 _ (LY)) (decide_eq_false (by omega))
  go_wp2_with fail
  go_ret
  exact⟨by rw[HF.out];rfl,HB0.out⟩
 case neg=>
 by_cases d1:c.rootHigh< 0
 case pos=>
  have HF:Hid (V=false):=N3.out _ (LY) (decide_eq_false (by omega))
  go_wp2_with fail
  go_ret
  exact⟨by rw[HF.out];rfl,HB0.out⟩
 case neg=>
 have hz1:IntKind.i64.wrap (2*c.rootHigh)=2*c.rootHigh:=KU _ (by omega)
 have hz2:IntKind.i64.wrap (8*c.rootLow)=8*c.rootLow:=KU _ (by omega)
 have hz3:IntKind.i64.wrap (2*c.den)=2*c.den:=KU _ (by omega)
 subst hb1 hb2
 have hsg:=H4.out
 have hls:=H5.out
 simp only[gU,Lm,decide_eq_true_eq]at hsg hls
 obtain⟨⟨hx5,hx6⟩,hx7⟩:=hsg
 obtain⟨⟨hx8,hx9⟩,hx10⟩:=hls
 have hm:0<=c.rootLow*c.least/\c.rootLow*c.least<=16384:=by
  have h1:0<=c.rootLow:=by omega
  have h2:c.rootLow<=64:=by omega
  refine⟨Int.mul_nonneg h1 (by omega),?_⟩
  have:=Int.mul_le_mul h2 hx9 (by omega) (by omega)
  omega
 have hz4:IntKind.i64.wrap (c.rootLow*c.least)=c.rootLow*c.least:=KU _ (by omega)
 have HX:=KO (show(4<=c.seg/\c.seg<=64)/\(c.seg<=c.least/\c.least<=256)/\pow2 c.seg.toNat=true/\pow2 c.least.toNat=true from⟨⟨hx5,hx6⟩,⟨hx8,hx9⟩,hx7,hx10⟩)
 clear hx5 hx6 hx7 hx8 hx9 hx10 hm
 by_cases d2:2*c.rootHigh< c.den
 case pos=>
  have HF:Hid (V=false):=N3.out _ (LY) (decide_eq_false (by omega))
  go_wp2_with fail
  go_ret
  exact⟨by rw[HF.out];rfl,HB0.out⟩
 case neg=>
 by_cases d3:c.den< 8*c.rootLow
 case pos=>
  have HF:Hid (V=false):=N3.out _ (K4 _ (LY)) (decide_eq_false (by omega))
  go_wp2_with fail
  go_ret
  exact⟨by rw[HF.out];rfl,HB0.out⟩
 case neg=>
 by_cases d4:c.rootLow*c.least< 2*c.den
 case pos=>
  have HF:Hid (V=false):=N3.out _ (K4 _ (K4 _ (LY))) (decide_eq_false (by omega))
  go_wp2_with fail
  go_ret
  exact⟨by rw[HF.out];rfl,HB0.out⟩
 case neg=>
 go_upto_region 7 with fail
 clear hz1 hz2 hz3 hz4
 obtain⟨⟨hx5,hx6⟩,⟨hx8,hx9⟩,hx7,hx10⟩:=HX.out
 have hts:TakeS c c.most.toNat c.den.toNat c.rootHigh.toNat c.least.toNat:=⟨(LZ (by omega)).symm,(LZ (by omega)).symm,(LZ (by omega)).symm,by omega,by omega,by omega,by omega,by omega,by omega,by omega,by omega⟩
 have htl:=xu (n:=c.most.toNat) (den:=c.den.toNat) (high:=c.rootHigh.toNat) hts.n2 hts.dh (jX (s:=c.least.toNat) hts.n2 hts.dh (by have:=hts.l1;omega) hts.l2)
 have htk:=fun W=>pK c c.most.toNat c.den.toNat c.rootHigh.toNat c.least.toNat W hts
 have htall:c.tall=Nat.log2 (fO c.most.toNat c.den.toNat c.rootHigh.toNat c.least.toNat/c.seg.toNat):=rfl
 have htl2:fO c.most.toNat c.den.toNat c.rootHigh.toNat c.least.toNat<=65536/\c.least.toNat<=fO c.most.toNat c.den.toNat c.rootHigh.toNat c.least.toNat:=htl
 obtain⟨T,hT⟩:∃T,fO c.most.toNat c.den.toNat c.rootHigh.toNat c.least.toNat=T:=⟨_,rfl⟩
 rw[hT]at htk htall htl2
 rw[LZ (by omega:0<=c.most)]at htk
 have hht:=fun W=>iw c T c.seg.toNat W (LZ (by omega)).symm htl2.1 (by omega) (by omega)
 rw[<-htall]at hht
 obtain⟨t,ht⟩:∃t,c.tall=t:=⟨_,rfl⟩
 rw[ht]at hht htall
 have ht16:t<=16:=by
  rw[htall]
  exact lI (KY (Na _ _) htl2.1)
 have hm1:0<=c.den*(t:Int)/\c.den*(t:Int)<=1024:=by
  refine⟨Int.mul_nonneg (by omega) (by omega),?_⟩
  have:=Int.mul_le_mul (show c.den<=64 by omega) (show(t:Int)<=16 by omega) (by omega) (by omega)
  omega
 have hm2:0<=(c.leafHigh-c.rootHigh)*c.seg/\(c.leafHigh-c.rootHigh)*c.seg<=4096:=by
  refine⟨Int.mul_nonneg (by omega) (by omega),?_⟩
  have:=Int.mul_le_mul (show c.leafHigh-c.rootHigh<=64 by omega) hx6 (by omega) (by omega)
  omega
 have hz1:IntKind.i64.wrap (c.leafHigh-c.rootHigh)=c.leafHigh-c.rootHigh:=KU _ (by omega)
 have hz2:IntKind.i64.wrap ((c.leafHigh-c.rootHigh)*c.seg)=(c.leafHigh-c.rootHigh)*c.seg:=KU _ (by omega)
 have hz3:IntKind.i64.wrap (c.den*(t:Int))=c.den*(t:Int):=KU _ (by omega)
 have HE:Hid (V=decide (c.den*(t:Int)<=(c.leafHigh-c.rootHigh)*c.seg)):=by
  show _=_
  rw[<-HV.out]
  unfold lW GJ
  rw[show(iH c).all id=true from by unfold iH;rw[H4.out,H5.out];simp only[List.all_cons,List.all_nil,id,Lm,decide_eq_true_eq,Bool.and_true,true_and];omega,
   show(jm c).all id=true from by unfold jm;simp only[List.all_cons,List.all_nil,id,Lm,decide_eq_true_eq,Bool.and_true];omega,
   show(mi c).all id=true from by unfold mi;simp only[List.all_cons,List.all_nil,id,Lm,decide_eq_true_eq,Bool.and_true];omega,ht]
  rfl
 have HTK:=KO htk
 have HHT:=KO hht
 have i3:=HC0.out.lt
 clear hts htl htk htall htl2 hT hht ht hx5 hx6 hx7 hx8 hx9 hx10 hm1 hm2 ht16
 go_cut [2]from 106 to 123 (fun v wx=>v= .bool (decide (c.den*(t:Int)<=(c.leafHigh-c.rootHigh)*c.seg))/\Below v2.heap.size v2 wx)
 case first=>
  go_region_held3 (fun w'=>(∀bq jq,bq< v2.heap.size->w'.cell? ⟨bq,jq,none⟩=v2.cell? ⟨bq,jq,none⟩)/\(∀bq jq,bq< v2.heap.size->w'.frozen? ⟨bq,jq,none⟩=v2.frozen? ⟨bq,jq,none⟩)/\v2.heap.size<=w'.heap.size/\Below v2.heap.size v2 w') ((with_reducible first|exact SB.init|exact SB.init0|exact SB.alloc _ (by assumption)|exact SB.allocD _ (by assumption)|exact SB.below (by assumption) (by assumption)|assumption))
   (first
    |(go_at_call 139;refine(HTK.out _).mono ?_;rintro e21 v21 ⟨rfl,hv21⟩;have hl21:=SB.le hv21 (by assumption);obtain⟨hc21,hz21,hs21⟩:=dE hv21)
    |(go_at_call 138;refine(HHT.out _).mono ?_;rintro e22 v22 ⟨rfl,hv22⟩;have hl22:=SB.le hv22 (by assumption);obtain⟨hc22,hz22,hs22⟩:=dE hv22)
    |fail "no arm")
  all_goals
   go_wp2_with fail
   go_meet
   exact⟨by simp,SB.bel (by assumption)⟩
 case rest=>
  obtain⟨rfl,hb4⟩:=hcut
  go_wp2_with fail
  go_ret
  exact⟨by rw[HE.out];rfl,aa HB0.out hb4⟩
end Go.Proofs.YtpbmbjjfdpkhbaaGreat
