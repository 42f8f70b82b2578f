/- part of the proof -/
import Derived.Test.YtpbmbjjfdpkhbaaGreatZq6
import Derived.Test.YtpbmbjjfdpkhbaaGreatZq2
import Derived.Test.YtpbmbjjfdpkhbaaGreatZq4
import Derived.Deep.CutRange
import Derived.Deep.RegionHeld3
import Derived.Test.YtpbmbjjfdpkhbaaGreatZq5
namespace Go.Proofs.YtpbmbjjfdpkhbaaGreat
open Go Go.RowKit
set_option linter.all false
set_option maxRecDepth 100000
set_option maxHeartbeats 32000000
open Go.Proofs.Tryz
open And renaming intro->Lr
open Below renaming refl->Lg
open Bool renaming and_eq_true->LZ,false_eq_true->Mt,false_ne_true->Ld
open Go renaming wpOp_step->Lj
open Go.IntWalk renaming i64_in->Lh
open Go.Lib renaming hid->Lc
open Int renaming toNat_of_nonneg->Mq
open List renaming getElem?_append_left->Nz,getElem?_append_right->Mw,getElem?_cons_succ->Ll,getElem?_cons_zero->Lm,mem_cons_of_mem->Lx,mem_cons_self->Mm,range->L8,range'->MS,setIfInBounds_toArray->LM,set_cons_succ->Mc,set_cons_zero->Mi,size_toArray->LW
open List.range renaming loop->ML
open Nat renaming add_mul->M7,div_le_self->Nu,le_refl->Lf,mul_assoc->MB,mul_comm->Mk,mul_le_mul_left->MW,mul_le_mul_right->Mg,one_mul->MO,pow_le_pow_right->LQ,reduceAdd->Me,reduceBEq->M9,reduceEqDiff->MH,reduceLT->Nh,reduceSub->Mf,two_pow_pos->M6,zero_le->LC
open Option.some renaming inj->Le
theorem tw_none {d:Option Tmp} {op:Op} {t:TypeId} {p:String} {a:Array Edge} {y:Nat->Option Bool}:Region.wanted ⟨d,op,t,p,a,none⟩ y=true:=rfl
def zJ (c:Cfg) (s:Ss) (h i:Nat):Bool:=mD c s.ks.length h (aX s.ws (i*(c.seg.toNat*2 ^ h)) (c.seg.toNat*2 ^ h))&&gI c s.ks.length h (aX s.ws (i*(c.seg.toNat*2 ^ h)) (c.seg.toNat*2 ^ h))
def rz (c:Cfg) (s:Ss) (h:Nat):Bool:=(L8 (s.ks.length/(c.seg.toNat*2 ^ h))).all (zJ c s h)
def gW (c:Cfg) (s:Ss):Bool:=(L8 (aI c s.ks.length+1)).all (rz c s)
def uj (c:Cfg) (s:Ss):Bool:=uB c s.ks.length&&bB s&&decide (s.seg=c.seg)&&decide (((aX s.ws 0 s.ks.length:Nat):Int)<=c.most)&&gW c s
def qB (c:Cfg) (s:Ss):Int:=if mK c=true then(if uj c s=true then 0 else 8)else 50
theorem CO (w:World) (c:Cfg) (s:Ss):∃W,(w.alloc (.cells c.row 24)).alloc (.cells s.row 29)=W/\Below w.heap.size w W/\Blk W w.heap.size 24 c.row/\Blk W (w.heap.size+1) 29 s.row:=by
 refine⟨_,rfl,((Lg _ _).alloc (Lf _) _).alloc (by simp) _,(Blk.new _ _ _).alloc _,?_⟩
 have:=Blk.new (w.alloc (.cells c.row 24)) 29 s.row
 rwa [World.size_alloc]at this
theorem yC (Y k:Nat):(wQ Y k).length=k*2:=by
 induction k with
 |zero=>rfl
 |succ k ih=>rw[oZ,List.length_append,ih];simp;omega
theorem xk (Y:Nat):∀k i:Nat,i< k->(wQ Y k)[i*2]?=some (nv (i*Y))/\(wQ Y k)[i*2+1]?=some (nv (i*Y+Y))
 |0,i,h=>absurd h (Nat.not_lt_zero i)
 |k+1,i,h=>by
  rw[oZ]
  by_cases hk:i< k
  ·have h1:=xk Y k i hk
   have hl:=yC Y k
   rw[Nz (by omega),Nz (by omega)]
   exact h1
  ·obtain rfl:i=k:=by omega
   have hl:=yC Y i
   rw[Mw (by omega),Mw (by omega),hl]
   simp
theorem Jc {w W:World} {A:Option Addr} {Y K i:Nat} (h:Sl w A (wQ Y K)) (hb:Below w.heap.size w W) (hi:i< K):∃b o,A=some ⟨b,o,none⟩/\W.cell? ⟨b,o+i*2,none⟩=some (.int .i64 ((i*Y:Nat):Int))/\W.cell? ⟨b,o+i*2+1,none⟩=some (.int .i64 ((i*Y+Y:Nat):Int)):=by
 have hg:=xk Y K i hi
 rcases h.below hb with h0|⟨b,o,hA,_,hc⟩
 ·rw[h0]at hg;simp at hg
 ·exact⟨b,o,hA,hc _ _ hg.1,by rw[Nat.add_assoc];exact hc _ _ hg.2⟩
theorem aK {P:Prop} (h:P:=by
  iterate 22 apply Exists.intro
  refine⟨rfl,?_,?_,?_,?_,?_,?_,?_,?_,?_,?_,?_,?_,?_,?_,?_,?_,?_,?_,?_,?_,?_,?_,?_⟩
  ·first|exact HB.out|exact aa HB.out hb1
  ·first|exact F0.out|exact fun _=>rfl
  ·first|exact F1.out|exact fun _=>rfl
  ·first|exact F2.out|exact fun _=>rfl
  ·first|exact F3.out|exact fun _=>rfl
  ·first|exact F4.out|exact fun _=>rfl
  ·first|exact F5.out|exact fun _=>rfl
  ·first|exact F6.out|exact fun _=>rfl
  ·first|exact F7.out|exact fun _=>rfl
  ·first|exact F8.out|exact fun _ _=>rfl|(intro _ h;refine absurd h ?_;decide;done)
  ·first|exact F9.out|exact fun _ _=>rfl|(intro _ h;refine absurd h ?_;decide;done)
  ·first|exact F10.out|exact fun _ _=>rfl|(intro _ h;refine absurd h ?_;decide;done)
  ·first|exact F11.out|exact fun _ _=>rfl|(intro _ h;refine absurd h ?_;decide;done)
  ·first|exact F12.out|exact fun _ _=>rfl|(intro _ h;refine absurd h ?_;decide;done)
  ·first|exact F13.out|exact fun _=>rfl
  ·first|exact F14.out|exact fun _=>rfl
  ·first|exact F15.out|exact fun _ _=>rfl|(intro _ h;refine absurd h ?_;decide;done)
  ·first|exact F16.out|exact fun _ _=>rfl|(intro _ h;refine absurd h ?_;decide;done)
  ·first|exact F17.out|exact fun _ _=>rfl|(intro _ h;refine absurd h ?_;decide;done)
  ·first|exact F18.out|exact fun _ _=>rfl|(intro _ h;refine absurd h ?_;decide;done)
  ·first|exact F19.out|exact fun _ _=>rfl|(intro _ h;refine absurd h ?_;decide;done)
  ·first|exact F20.out|exact fun _ _=>rfl|(intro _ h;refine absurd h ?_;decide;done)
  ·first|exact F21.out|exact fun _=>rfl):P:=h
theorem wF (c:Cfg) (s:Ss) (w:World) (hs:SsAt w s) (ho:SsOk s) (hcap:s.cs.length<=s.cc):
  Calls prog 193 #[.agg c.row,.agg s.row] w fun r w'=>r= .returned (.int .i64 (qB c s))/\Below w.heap.size w w':=by
 have hch:=fun W=>nA c W
 obtain⟨R,hR⟩:∃R,qB c s=R:=⟨_,rfl⟩
 rw[hR]
 unfold qB at hR
 unfold iW at hch
 obtain⟨W0,hW0,hb0,b0,bs0⟩:=CO w c s
 have HCH:=Lc hch
 have HW0:=Lc hW0
 have HB0:=Lc hb0
 have HC0:=Lc b0
 have HS0:=Lc bs0
 have HSA:=Lc (hs.below hb0)
 have HOK:=Lc ho
 have HCAP:=Lc hcap
 have HR:=Lc hR
 clear hch hW0 hb0 b0 bs0 hs ho hcap hR
 obtain⟨i0,q0,q1,q2,q3,q4,q5,q6,q7,q8⟩:=iF HC0.out
 go_enter func193,ntmps193
 go_upto_region 1 with fail
 rw[HW0.out]
 go_wp2_with fail
 cases hk:mK c with
 |false=>
  have hch:=HCH.out W0
  rw[hk]at hch
  have hr:=HR.out
  rw[hk]at hr
  obtain rfl:R=50:=by rw[<-hr];rfl
  refine hch.mono ?_
  rintro e w1 ⟨rfl,hb1⟩
  have HB1:=Lc (aa HB0.out hb1)
  clear hb1 hr hch
  go_wp2_with fail
  go_ret
  exact⟨rfl,HB1.out⟩
 |true=>
 have hch:=HCH.out W0
 rw[hk]at hch
 have hr:=HR.out
 rw[hk,if_pos rfl]at hr
 have HR2:=Lc hr
 refine hch.mono ?_
 rintro e w1 ⟨rfl,hb1⟩
 have HB1:=Lc (aa HB0.out hb1)
 have HC1:=Lc (HC0.out.below hb1 HC0.out.lt)
 have HS1:=Lc (HS0.out.below hb1 HS0.out.lt)
 have HSB:=Lc (HSA.out.below hb1)
 have hhi:=fun W=>uZ c s.ks.length W hk HOK.out.kl
 have HK:=Lc hk
 clear hb1 hr hch q0 q1 q2 q3 q4 q5 q6 q7 q8 i0 HB0 HC0 HS0 HW0 HSA HR HCH hk
 obtain⟨i0,q0,q1,q2,q3,q4,q5,q6,q7,q8⟩:=iF HC1.out
 have r2:w1.cell? ⟨w.heap.size+1,2,none⟩=some (.slice s.kA s.ks.length s.kc):=HS1.out.cell 2
 cases hz:uB c s.ks.length with
 |false=>
  rw[hz]at hhi
  have HH:=Lc hhi
  obtain rfl:R=8:=by rw[<-HR2.out];unfold uj;rw[hz];rfl
  clear hhi hz
  go_wp2_with fail
  refine(HH.out _).mono ?_
  rintro e w2 ⟨rfl,hb2⟩
  have HB2:=Lc (aa HB1.out hb2)
  clear hb2
  go_upto_region 6 with fail
  go_big_quiet (fail)
  go_wp2_with fail
  go_ret
  exact⟨rfl,aa HB2.out (av (Lg _ _) _)⟩
 |true=>
 rw[hz]at hhi
 obtain⟨H,hH⟩:∃C,aI c s.ks.length=C:=⟨_,rfl⟩
 rw[hH]at hhi
 have HH:=Lc hhi
 have HHQ:=Lc hH
 have HZ:=Lc hz
 clear hhi hz hH
 go_wp2_with fail
 refine(HH.out _).mono ?_
 rintro e w2 ⟨rfl,hb2⟩
 have HB2:=Lc (aa HB1.out hb2)
 have HC2:=Lc (HC1.out.below hb2 HC1.out.lt)
 have HS2:=Lc (HS1.out.below hb2 HS1.out.lt)
 have HSC:=Lc (HSB.out.below hb2)
 clear hb2 q0 q1 q2 q3 q4 q5 q6 q7 q8 i0 r2 HB1 HC1 HS1 HSB HH
 go_upto_region 6 with fail
 have hsc:=fun W (hW:Below w2.heap.size w2 W)=>kM s W (HSC.out.below hW) HOK.out
 obtain⟨M,hM⟩:∃M,bB s=M:=⟨_,rfl⟩
 rw[hM]at hsc
 obtain⟨E,hE⟩:∃E:Int,(if M=true then(0:Int)else 8)=E:=⟨_,rfl⟩
 rw[hE]at hsc
 have HSC7:=Lc hsc
 obtain⟨P,hP⟩:∃P,(E !=0)=P:=⟨_,rfl⟩
 have hP2:(!decide (E=0))=P:=by rw[<-hP];by_cases h:E=0 <;> simp[h]
 have hMP:P=false->M=true:=fun h=>by
  cases M with
  |true=>rfl
  |false=>rw[<-hP,<-hE]at h;exact absurd h (by decide)
 have hPM:P=true->M=false:=fun h=>by
  cases M with
  |false=>rfl
  |true=>rw[<-hP,<-hE]at h;exact absurd h (by decide)
 have HP:=Lc (Lr hP (Lr hP2 (Lr hMP hPM)))
 obtain⟨X12,hX12⟩:∃P,(s.seg !=c.seg)=P:=⟨_,rfl⟩
 have hX2:(!decide (s.seg=c.seg))=X12:=by rw[<-hX12];by_cases h:s.seg=c.seg <;> simp[h]
 have HX12:=Lc (Lr hX12 hX2)
 obtain⟨Q,hQ⟩:∃Q,(P||X12)=Q:=⟨_,rfl⟩
 have HQ:=Lc (show(P=true->Q=true)/\(P=false->Q=X12)by rw[<-hQ];exact⟨fun h=>by rw[h];rfl,fun h=>by rw[h];rfl⟩)
 have ham:=fun(hm:bB s=true) W (hW:Below w2.heap.size w2 W)=>by
  have hsg:=fC hm
  have h:=uI s 0 s.cs.length 0 s.ks.length W (HSC.out.below hW) HOK.out hm HCAP.out hsg.d0 (Lf _) (Nat.zero_mul _) (by rw[hsg.kl,Mk])
  rw[Nat.sub_zero]at h
  exact h
 obtain⟨N0,hN0⟩:∃N,aX s.ws 0 s.ks.length=N:=⟨_,rfl⟩
 rw[hN0]at ham
 have HAM:=Lc (show Q=false->∀W,Below w2.heap.size w2 W->Calls prog 199 #[.agg s.row,.int .i64 0,.int .i64 (s.ks.length:Nat)] W (fun r w'=>r= .returned (.int .i64 (N0:Nat))/\Below W.heap.size W w')from fun h=>ham (hM.trans (hMP (by cases P with
  |false=>rfl
  |true=>rw[<-hQ]at h;simp at h))))
 obtain⟨X20,hX20⟩:∃P,decide (c.most< (N0:Int))=P:=⟨_,rfl⟩
 have HX20:=Lc hX20
 obtain⟨V,hV⟩:∃Q',(Q||X20)=Q':=⟨_,rfl⟩
 have HV:=Lc (show(Q=true->V=true)/\(Q=false->V=X20)by rw[<-hV];exact⟨fun h=>by rw[h];rfl,fun h=>by rw[h];rfl⟩)
 have hmg:uj c s=(!V&&gW c s):=by
  unfold uj
  rw[HZ.out,hM,hN0,<-hV,<-hQ,<-hX12,<-hX20,Bool.true_and]
  cases M with
  |false=>rw[<-hP,<-hE];rfl
  |true=>
   have:P=false:=by rw[<-hP,<-hE];rfl
   rw[this]
   by_cases h1:s.seg=c.seg
   ·by_cases h2:((N0:Nat):Int)<=c.most
    ·simp[h1,h2]
    ·simp[h1,h2]
   ·simp[h1]
 have HMG:=Lc (show V=false->bB s=true/\s.seg=c.seg from fun h=>by
  have hq:Q=false:=by cases Q with
   |false=>rfl
   |true=>rw[<-hV]at h;simp at h
  have hp:P=false:=by cases P with
   |false=>rfl
   |true=>rw[<-hQ]at hq;simp at hq
  have hx:X12=false:=by rw[<-hQ,hp]at hq;exact hq
  exact⟨hM.trans (hMP hp),by rw[hx]at hX12;simpa using hX12⟩)
 have hr2:=HR2.out
 rw[hmg]at hr2
 have HR3:=Lc hr2
 clear hsc hM hE hP hP2 hMP hPM hX12 hX2 hQ ham hN0 hX20 hV hmg hr2 HR2
 refine aM (by kernel_rfl) (by kernel_rfl) (fun L a W=>∃(t33 t34 t35 t36 t37 t38 t39 t40 t41 t42 t43 t44 t45 t46 t47 t48 t49 t50 t51 t52 t53 t54:Value),a=⟨#[Value.agg c.row,Value.agg s.row,.pointer (some {block:=w.heap.size,off:=0}),.pointer (some {block:=w.heap.size+1,off:=0}),.int .i64 0,.int .i64 0,.int .i64 ↑s.ks.length,.int .i64 ↑H,.int .i64 0,undef,undef,undef,undef,undef,undef,undef,undef,undef,undef,Value.agg #[.int .u8 c.tag,.int .i64 c.most,.int .i64 c.seg,.int .i64 c.least,.int .i64 c.den,.int .i64 c.leafLow,.int .i64 c.rootLow,.int .i64 c.rootHigh,.int .i64 c.leafHigh],.int .i64 0,.int .i64 0,.bool false,undef,.pointer (some {block:=w.heap.size+1,off:=2}),.slice s.kA s.ks.length s.kc,.int .i64 ↑s.ks.length,Value.tuple #[.int .i64 ↑H,.int .i64 0],Value.agg #[.int .u8 c.tag,.int .i64 c.most,.int .i64 c.seg,.int .i64 c.least,.int .i64 c.den,.int .i64 c.leafLow,.int .i64 c.rootLow,.int .i64 c.rootHigh,.int .i64 c.leafHigh],.int .i64 ↑s.ks.length,Value.tuple #[.int .i64 ↑H,.int .i64 0],.int .i64 ↑H,.int .i64 0,t33,t34,t35,t36,t37,t38,t39,t40,t41,t42,t43,t44,t45,t46,t47,t48,t49,t50,t51,t52,t53,t54,undef,undef,undef,undef,undef,undef,undef,undef,undef,undef,undef,undef,undef,undef,undef,undef,undef,undef,undef,undef,undef,undef,undef,undef,undef,undef,undef,undef,undef,undef,undef,undef,undef,undef,undef,undef,undef,undef,undef,undef,undef,undef,undef,undef,undef,undef,undef,undef,undef],[]⟩/\Below w2.heap.size w2 W/\(L 0=true->t33= .int .i64 0)/\(L 1=true->t34= .bool false)/\(L 2=true->t35= .bool false)/\(L 3=true->t36= .agg s.row)/\(L 4=true->t37= .int .i64 E)/\(L 5=true->t38= .bool P)/\(L 6=true->t39= .bool P)/\(L 7=true->t40= .bool P)/\(L 8=true->P=false->t41= .pointer (some ⟨w.heap.size+1,0,none⟩))/\(L 9=true->P=false->t42= .int .i64 s.seg)/\(L 10=true->P=false->t43= .pointer (some ⟨w.heap.size,2,none⟩))/\(L 11=true->P=false->t44= .int .i64 c.seg)/\(L 12=true->P=false->t45= .bool X12)/\(L 13=true->t46= .bool Q)/\(L 14=true->t47= .bool Q)/\(L 15=true->Q=false->t48= .agg s.row)/\(L 16=true->Q=false->t49= .int .i64 (s.ks.length:Nat))/\(L 17=true->Q=false->t50= .int .i64 (N0:Nat))/\(L 18=true->Q=false->t51= .pointer (some ⟨w.heap.size,1,none⟩))/\(L 19=true->Q=false->t52= .int .i64 c.most)/\(L 20=true->Q=false->t53= .bool X20)/\(L 21=true->t54= .bool V)) ?h0 ?hstep ?hend
 case h0=>exact⟨undef,undef,undef,undef,undef,undef,undef,undef,undef,undef,undef,undef,undef,undef,undef,undef,undef,undef,undef,undef,undef,undef,rfl,(Lg _ _).drew,fun h=>absurd h Ld,fun h=>absurd h Ld,fun h=>absurd h Ld,fun h=>absurd h Ld,fun h=>absurd h Ld,fun h=>absurd h Ld,fun h=>absurd h Ld,fun h=>absurd h Ld,fun h=>absurd h Ld,fun h=>absurd h Ld,fun h=>absurd h Ld,fun h=>absurd h Ld,fun h=>absurd h Ld,fun h=>absurd h Ld,fun h=>absurd h Ld,fun h=>absurd h Ld,fun h=>absurd h Ld,fun h=>absurd h Ld,fun h=>absurd h Ld,fun h=>absurd h Ld,fun h=>absurd h Ld,fun h=>absurd h Ld⟩
 case hend=>
  rintro L a W hall ⟨t33,t34,t35,t36,t37,t38,t39,t40,t41,t42,t43,t44,t45,t46,t47,t48,t49,t50,t51,t52,t53,t54,rfl,hb,f0,f1,f2,f3,f4,f5,f6,f7,f8,f9,f10,f11,f12,f13,f14,f15,f16,f17,f18,f19,f20,f21⟩
  have z0:=f0 (hall 0 (by decide))
  have z1:=f1 (hall 1 (by decide))
  have z2:=f2 (hall 2 (by decide))
  have z3:=f3 (hall 3 (by decide))
  have z4:=f4 (hall 4 (by decide))
  have z5:=f5 (hall 5 (by decide))
  have z6:=f6 (hall 6 (by decide))
  have z7:=f7 (hall 7 (by decide))
  have z8:=f8 (hall 8 (by decide))
  have z9:=f9 (hall 9 (by decide))
  have z10:=f10 (hall 10 (by decide))
  have z11:=f11 (hall 11 (by decide))
  have z12:=f12 (hall 12 (by decide))
  have z13:=f13 (hall 13 (by decide))
  have z14:=f14 (hall 14 (by decide))
  have z15:=f15 (hall 15 (by decide))
  have z16:=f16 (hall 16 (by decide))
  have z17:=f17 (hall 17 (by decide))
  have z18:=f18 (hall 18 (by decide))
  have z19:=f19 (hall 19 (by decide))
  have z20:=f20 (hall 20 (by decide))
  have z21:=f21 (hall 21 (by decide))
  clear hall f0 f1 f2 f3 f4 f5 f6 f7 f8 f9 f10 f11 f12 f13 f14 f15 f16 f17 f18 f19 f20 f21
  have hz:=z21
  subst hz
  have HB3:=Lc (aa HB2.out hb)
  have HC3:=Lc (HC2.out.below hb HC2.out.lt)
  have HS3:=Lc (HS2.out.below hb HS2.out.lt)
  have HSD:=Lc (HSC.out.below hb)
  clear hb z0 z1 z2 z3 z4 z5 z6 z7 z8 z9 z10 z11 z12 z13 z14 z15 z16 z17 z18 z19 z20 HC2 HS2 HSC HB2 HSC7 HAM HQ HV HX20 HX12 HP
  cases V with
  |true=>
   obtain rfl:R=8:=HR3.out.symm
   go_wp2_with fail
   go_ret
   exact⟨rfl,HB3.out⟩
  |false=>
  obtain⟨hmay,hseg⟩:=HMG.out (by first|rfl|trivial)
  have HR4:=Lc (show(if gW c s=true then(0:Int)else 8)=R from HR3.out)
  have hci:=jH HK.out
  have hif:=aO hci HOK.out.kl HZ.out
  have hsg:=fC hmay
  rw[hseg]at hsg
  have HMAY:=Lc hmay
  obtain⟨H1,hH1⟩:∃x,H+1=x:=⟨_,rfl⟩
  have hw1:IntKind.i64.wrap ((H:Int)+1)=(H1:Int):=by rw[Lh _ (by have:=hif.2.2.2.1;have:=HHQ.out;omega)];omega
  rw[HHQ.out]at hif
  have HIF:=Lc hif
  have HSEG:=Lc hseg
  have HCI:=Lc hci
  have HSG:=Lc hsg
  clear hmay hseg hci hif hsg HMG HR3
  have HH1:=Lc hH1
  clear hH1
  go_wp2_with fail
  clear hw1
  go_loopw [57] (fun e wr=>∃h:Nat,h<=H1/\e= .int .i64 h/\Hid (Below W.heap.size W wr)/\Hid (∀j,j< h->rz c s j=true)) (fun e _=>H1-(intOf e).toNat)
  case atStart=>exact⟨0,LC _,rfl,Lg _ _,fun j hj=>absurd hj (Nat.not_lt_zero j)⟩
  case round=>
   obtain⟨h,hh,rfl,hbr,hrow⟩:=hrel
   by_cases hlt:h< H1
   ·have i1:(h:Int)< ((H1:Nat):Int):=by omega
    have hC:=HC3.out.below hbr.out HC3.out.lt
    obtain⟨G,hG⟩:∃G,c.seg.toNat=G:=⟨_,rfl⟩
    have hGi:c.seg=(G:Int):=by have:=HCI.out.g;omega
    have q2:wr.cell? ⟨w.heap.size,2,none⟩=some (.int .i64 (G:Nat)):=(hC.cell 2).trans (by rw[<-hGi];rfl)
    obtain⟨Y,hY⟩:∃Y,G*2 ^ h=Y:=⟨_,rfl⟩
    obtain⟨K,hK⟩:∃K,s.ks.length/Y=K:=⟨_,rfl⟩
    have hnH:s.ks.length=G*2 ^ H:=by rw[<-hG];exact HIF.out.2.2.1
    have hY0:0< Y:=by rw[<-hY];exact Nat.mul_pos (by have:=HCI.out.g;omega) (M6 h)
    have hKY:K*Y=s.ks.length:=by
     have hd:Y ∣ s.ks.length:=by rw[hnH,<-hY];exact Nat.mul_dvd_mul_left _ (Nat.pow_dvd_pow 2 (by have:=HH1.out;omega))
     rw[<-hK];exact Nat.div_mul_cancel hd
    have hro:=I8 G s.ks.length h K Y wr (by have:=HCI.out.g;omega) (by have:=HCI.out.g;omega) (by rw[<-hG];exact HCI.out.pg) (by have:=HIF.out.2.2.2.2;omega) HOK.out.kl HIF.out.2.1 (by have:=HHQ.out;unfold aI at this;rw[hG]at this;have:=HH1.out;omega) hY hKY
    have HRO:=Lc hro
    have HG:=Lc (Lr hG (Lr hGi (Lr hY (Lr hK (Lr hY0 hKY)))))
    have HLT:=Lc hlt
    have HHH:=Lc hh
    have hw2:=aT h (by have:=HIF.out.2.2.2.1;have:=HH1.out;omega)
    have HW2:=Lc hw2
    clear hC hG hGi hY hK hnH hY0 hKY hro hlt hh hw2
    go_wp2_with fail
    refine HRO.out.mono ?_
    rintro e w4 ⟨A4,c4,rfl,ho4,hb4⟩
    have HB4:=Lc (aa hbr.out hb4)
    have HSL:=Lc (aA ho4)
    clear ho4 hb4 q2 HRO
    go_wp2_with fail
    go_loopw [70] (fun e wr2=>∃i:Nat,i<=K/\e= .int .i64 i/\Hid (Below w4.heap.size w4 wr2)/\Hid (∀j,j< i->zJ c s h j=true)) (fun e _=>K-(intOf e).toNat)
    case atStart=>exact⟨0,LC _,rfl,Lg _ _,fun j hj=>absurd hj (Nat.not_lt_zero j)⟩
    case round=>
     obtain⟨i,hi,rfl,hbi,hwin⟩:=hrel
     by_cases hli:i< K
     ·have i2:(i:Int)< (K:Int):=by omega
      have i3:(0:Int)<=(i:Int):=by omega
      obtain⟨b6,o6,e6,hc0,hc1⟩:=Jc HSL.out hbi.out hli
      obtain rfl:=e6
      obtain⟨hG,hGi,hY,hK,hY0,hKY⟩:=HG.out
      have hB5:=aa HB4.out hbi.out
      have hC5:=HC3.out.below hB5 HC3.out.lt
      have hS5:=HS3.out.below hB5 HS3.out.lt
      obtain⟨M,hM⟩:∃M,i*Y=M:=⟨_,rfl⟩
      obtain⟨T,hT⟩:∃M,i*Y+Y=M:=⟨_,rfl⟩
      have hMT:M+Y=T:=by rw[<-hM,hT]
      have hTn:T<=s.ks.length:=by
       rw[<-hT,<-hKY]
       have:=Mg Y (show i+1<=K by omega)
       rwa [M7,MO]at this
      rw[hT]at hc1
      rw[hM]at hc0
      have ham:=fun W (hW:Below w4.heap.size w4 W)=>uI s (i*2 ^ h) ((i+1)*2 ^ h) M T W (HSD.out.below (aa HB4.out hW)) HOK.out HMAY.out HCAP.out (by rw[M7,MO];have:=M6 h;omega) (by
        have hsg:=HSG.out
        rw[hG]at hsg
        have h1:((i+1)*2 ^ h)*G<=s.cs.length*G:=by
         rw[MB,Mk (2 ^ h) G,hY,M7,MO,hT,Mk s.cs.length,<-hsg.kl];exact hTn
        exact Nat.le_of_mul_le_mul_right h1 (by have:=hsg.g4;omega)) (by rw[HSEG.out,hG,MB,Mk (2 ^ h) G,hY,hM]) (by rw[HSEG.out,hG,MB,Mk (2 ^ h) G,hY,M7,MO,hT])
      rw[show T-M=Y by omega]at ham
      have hcl:=eT s.ws Y M
      have hfu:=fun W=>Ew c s.ks.length h (aX s.ws M Y) W HK.out HOK.out.kl HZ.out (by rw[HHQ.out];have:=HLT.out;have:=HH1.out;omega) (by rw[hG,hY];exact hcl)
      have hsp:=fun W=>xn c s.ks.length h (aX s.ws M Y) W HK.out HOK.out.kl HZ.out (by rw[HHQ.out];have:=HLT.out;have:=HH1.out;omega) (by rw[hG,hY];exact hcl)
      have hwb:zJ c s h i=(mD c s.ks.length h (aX s.ws M Y)&&gI c s.ks.length h (aX s.ws M Y)):=by unfold zJ;rw[hG,hY,hM]
      obtain⟨C,hC⟩:∃C,aX s.ws M Y=C:=⟨_,rfl⟩
      rw[hC]at ham hfu hsp hwb
      obtain⟨FB,hFB⟩:∃b,mD c s.ks.length h C=b:=⟨_,rfl⟩
      obtain⟨SB',hSB⟩:∃b,gI c s.ks.length h C=b:=⟨_,rfl⟩
      rw[hFB]at hfu hwb
      rw[hSB]at hsp hwb
      have HAM:=Lc ham
      have HFU:=Lc hfu
      have HSP:=Lc hsp
      have HWB:=Lc hwb
      have HBI:=Lc hbi.out
      have HB5:=Lc hB5
      have HLI:=Lc hli
      have HC5:=Lc hC5
      have HS5:=Lc hS5
      have hw3:=aT i (by have:=HOK.out.kl;have:K<=K*Y:=Nat.le_mul_of_pos_right _ hY0;omega)
      have HW3:=Lc hw3
      clear ham hfu hsp hwb hC hFB hSB hcl hG hGi hY hK hY0 hKY hB5 hM hT hMT hTn hli hw3 hi
      obtain⟨j0,r0,r1,r2,r3,r4,r5⟩:=E5 hS5
      clear hC5 hS5
      have d0:wr.cell? ⟨b6,o6+i*2,none⟩=some (.int .i64 (M:Nat)):=hc0
      have d1:wr.cell? ⟨b6,o6+i*2+1,none⟩=some (.int .i64 (T:Nat)):=hc1
      clear hc0 hc1
      go_wp2_with fail
      have hba:Below w4.heap.size w4 (wr.alloc (.cells #[.int .i64 (M:Nat),.int .i64 (T:Nat)] 243)):=HBI.out.alloc HBI.out.size _
      refine(HAM.out _ hba).mono ?_
      rintro e w5 ⟨rfl,hb5⟩
      have hb6:=aa ((Lg wr.heap.size wr).alloc (Lf _) (.cells #[.int .i64 (M:Nat),.int .i64 (T:Nat)] 243)) hb5
      have HB6:=Lc (aa HBI.out hb6)
      have HC6:=Lc (HC5.out.below hb6 HC5.out.lt)
      clear hba hb5 hb6 d0 d1 r0 r1 r2 r3 r4 r5 j0 HC5 HS5 HBI
      obtain⟨i0,q0,q1,q2,q3,q4,q5,q6,q7,q8⟩:=iF HC6.out
      go_wp2_with fail
      refine(HFU.out _).mono ?_
      rintro e w6 ⟨rfl,hb7⟩
      have HB7:=Lc (aa HB6.out hb7)
      have HC7:=Lc (HC6.out.below hb7 HC6.out.lt)
      clear hb7 q0 q1 q2 q3 q4 q5 q6 q7 q8 i0 HC6 HB6
      obtain⟨i0,q0,q1,q2,q3,q4,q5,q6,q7,q8⟩:=iF HC7.out
      go_wp2_with fail
      refine(HSP.out _).mono ?_
      rintro e w7 ⟨rfl,hb8⟩
      have HB8:=Lc (aa HB7.out hb8)
      clear hb8 q0 q1 q2 q3 q4 q5 q6 q7 q8 i0 HC7 HB7
      have hbad:(FB&&SB')=false->R=8:=fun hf=>by
       rw[<-HR4.out]
       have h1:rz c s h=false:=by
        unfold rz
        rw[HG.out.1,HG.out.2.2.1,HG.out.2.2.2.1]
        exact jy HLI.out (HWB.out.trans hf)
       have h2:gW c s=false:=by
        unfold gW
        rw[HHQ.out,HH1.out]
        exact jy HLT.out h1
       rw[h2];rfl
      have HBAD:=Lc hbad
      clear hbad
      cases FB with
      |false=>
       obtain rfl:R=8:=HBAD.out (by first|rfl|trivial)
       go_wp2_with fail
       go_ret
       exact⟨rfl,aa HB3.out (aa HB4.out HB8.out)⟩
      |true=>
      cases SB' with
      |false=>
       obtain rfl:R=8:=HBAD.out (by first|rfl|trivial)
       go_wp2_with fail
       go_ret
       exact⟨rfl,aa HB3.out (aa HB4.out HB8.out)⟩
      |true=>
      go_wp2_with fail
      go_roundw
      case rel=>exact⟨i+1,HLI.out,by rw[HW3.out],HB8.out,fun j hj=>by
       rcases Nat.lt_succ_iff_lt_or_eq.1 hj with h'|h'
       ·exact hwin.out j h'
       ·rw[h',HWB.out];rfl⟩
      case measure=>exact bO _ i HLI.out HW3.out
     ·have hiK:i=K:=by omega
      have i2:¬(i:Int)< (K:Int):=by omega
      have HRW:=Lc (show rz c s h=true by
       unfold rz
       rw[HG.out.1,HG.out.2.2.1,HG.out.2.2.2.1]
       exact iY fun j hj=>hwin.out j (by omega))
      have HBI:=Lc hbi.out
      clear hli hiK hi
      go_wp2_with fail
      go_roundw
      case rel=>exact⟨h+1,HLT.out,by rw[HW2.out],aa HB4.out HBI.out,fun j hj=>by
       rcases Nat.lt_succ_iff_lt_or_eq.1 hj with h'|h'
       ·exact hrow.out j h'
       ·rw[h'];exact HRW.out⟩
      case measure=>exact bO _ h HLT.out HW2.out
   ·have i1:¬(h:Int)< ((H1:Nat):Int):=by omega
    obtain rfl:R=0:=by rw[<-HR4.out];unfold gW;rw[HHQ.out,HH1.out,iY fun j hj=>hrow.out j (by omega)];rfl
    have HBR:=Lc hbr.out
    clear hlt hh
    go_wp2_with fail
    go_ret
    exact⟨rfl,aa HB3.out HBR.out⟩
 case hstep=>
  rintro L a W i o ho hLi hdep ⟨t33,t34,t35,t36,t37,t38,t39,t40,t41,t42,t43,t44,t45,t46,t47,t48,t49,t50,t51,t52,t53,t54,rfl,hb,f0,f1,f2,f3,f4,f5,f6,f7,f8,f9,f10,f11,f12,f13,f14,f15,f16,f17,f18,f19,f20,f21⟩
  have F0:=Lc f0
  have F1:=Lc f1
  have F2:=Lc f2
  have F3:=Lc f3
  have F4:=Lc f4
  have F5:=Lc f5
  have F6:=Lc f6
  have F7:=Lc f7
  have F8:=Lc f8
  have F9:=Lc f9
  have F10:=Lc f10
  have F11:=Lc f11
  have F12:=Lc f12
  have F13:=Lc f13
  have F14:=Lc f14
  have F15:=Lc f15
  have F16:=Lc f16
  have F17:=Lc f17
  have F18:=Lc f18
  have F19:=Lc f19
  have F20:=Lc f20
  have F21:=Lc f21
  have HB:=Lc hb
  clear hLi hb f0 f1 f2 f3 f4 f5 f6 f7 f8 f9 f10 f11 f12 f13 f14 f15 f16 f17 f18 f19 f20 f21
  match i,ho with
  |0,ho=>
   obtain rfl:=Le ho
   clear hdep
   refine Lj rfl (fun K1 hK1=>?_)
   have hK:=Lc hK1
   clear hK1
   go_wp2_with fail
   refine hK.out _ _ ?_;exact aK
  |1,ho=>
   obtain rfl:=Le ho
   have hl0:=hdep ⟨0,.data⟩ (by simp) rfl
   clear hdep
   obtain rfl:=F0.out hl0
   refine Lj rfl (fun K1 hK1=>?_)
   have hK:=Lc hK1
   clear hK1
   go_wp2_with fail
   refine hK.out _ _ ?_;exact aK
  |2,ho=>
   obtain rfl:=Le ho
   have hl1:=hdep ⟨1,.data⟩ (by simp) rfl
   clear hdep
   obtain rfl:=F1.out hl1
   refine Lj rfl (fun K1 hK1=>?_)
   have hK:=Lc hK1
   clear hK1
   go_wp2_with fail
   refine hK.out _ _ ?_;exact aK
  |3,ho=>
   obtain rfl:=Le ho
   have hl2:=hdep ⟨2,.guard⟩ (by simp) rfl
   clear hdep
   obtain rfl:=F2.out hl2
   obtain⟨i0,r0,r1,r2,r3,r4,r5⟩:=E5 (HS2.out.below HB.out HS2.out.lt)
   refine Lj rfl (fun K1 hK1=>?_)
   have hK:=Lc hK1
   clear hK1
   go_wp2_with fail
   refine hK.out _ _ ?_;exact aK
  |4,ho=>
   obtain rfl:=Le ho
   have hl3:=hdep ⟨3,.data⟩ (by simp) rfl
   have hl2:=hdep ⟨2,.guard⟩ (by simp) rfl
   clear hdep
   obtain rfl:=F3.out hl3
   obtain rfl:=F2.out hl2
   refine Lj rfl (fun K1 hK1=>?_)
   have hK:=Lc hK1
   clear hK1
   go_wp2_with (go_at_call 198;refine(HSC7.out _ HB.out).mono ?_;rintro e1 W1 ⟨rfl,hb1⟩)
   refine hK.out _ _ ?_;exact aK
  |5,ho=>
   obtain rfl:=Le ho
   have hl4:=hdep ⟨4,.data⟩ (by simp) rfl
   have hl2:=hdep ⟨2,.guard⟩ (by simp) rfl
   clear hdep
   obtain rfl:=F4.out hl4
   obtain rfl:=F2.out hl2
   have p7:=HP.out.1
   have p8:=HP.out.2.1
   refine Lj rfl (fun K1 hK1=>?_)
   have hK:=Lc hK1
   clear hK1
   go_wp2_with fail
   refine hK.out _ _ ?_;exact aK
  |6,ho=>
   obtain rfl:=Le ho
   have hl2:=hdep ⟨2,.data⟩ (by simp) rfl
   have hl5:=hdep ⟨5,.data⟩ (by simp) rfl
   clear hdep
   obtain rfl:=F2.out hl2
   obtain rfl:=F5.out hl5
   refine Lj rfl (fun K1 hK1=>?_)
   have hK:=Lc hK1
   clear hK1
   go_wp2_with fail
   refine hK.out _ _ ?_;exact aK
  |7,ho=>
   obtain rfl:=Le ho
   have hl6:=hdep ⟨6,.data⟩ (by simp) rfl
   clear hdep
   obtain rfl:=F6.out hl6
   refine Lj rfl (fun K1 hK1=>?_)
   have hK:=Lc hK1
   clear hK1
   go_wp2_with fail
   refine hK.out _ _ ?_;exact aK
  |8,ho=>
   obtain rfl:=Le ho
   have hl7:=hdep ⟨7,.guard⟩ (by simp) rfl
   clear hdep
   obtain rfl:=F7.out hl7
   cases P
   case false=>
    refine Lj rfl (fun K1 hK1=>?_)
    have hK:=Lc hK1
    clear hK1
    go_wp2_with fail
    refine hK.out _ _ ?_;exact aK
   case true=>
    refine Lj rfl (fun K1 hK1=>?_)
    have hK:=Lc hK1
    clear hK1
    go_wp2_with fail
    refine hK.out _ _ ?_;exact aK
  |9,ho=>
   obtain rfl:=Le ho
   have hl8:=hdep ⟨8,.data⟩ (by simp) rfl
   have hl7:=hdep ⟨7,.guard⟩ (by simp) rfl
   clear hdep
   obtain rfl:=F7.out hl7
   cases P
   case false=>
    obtain rfl:=F8.out hl8 (by first|rfl|trivial)
    have r0:W.cell? ⟨w.heap.size+1,0,none⟩=some (.int .i64 s.seg):=(HS2.out.below HB.out HS2.out.lt).cell 0
    refine Lj rfl (fun K1 hK1=>?_)
    have hK:=Lc hK1
    clear hK1
    go_wp2_with fail
    refine hK.out _ _ ?_;exact aK
   case true=>
    refine Lj rfl (fun K1 hK1=>?_)
    have hK:=Lc hK1
    clear hK1
    go_wp2_with fail
    refine hK.out _ _ ?_;exact aK
  |10,ho=>
   obtain rfl:=Le ho
   have hl7:=hdep ⟨7,.guard⟩ (by simp) rfl
   clear hdep
   obtain rfl:=F7.out hl7
   cases P
   case false=>
    refine Lj rfl (fun K1 hK1=>?_)
    have hK:=Lc hK1
    clear hK1
    go_wp2_with fail
    refine hK.out _ _ ?_;exact aK
   case true=>
    refine Lj rfl (fun K1 hK1=>?_)
    have hK:=Lc hK1
    clear hK1
    go_wp2_with fail
    refine hK.out _ _ ?_;exact aK
  |11,ho=>
   obtain rfl:=Le ho
   have hl10:=hdep ⟨10,.data⟩ (by simp) rfl
   have hl7:=hdep ⟨7,.guard⟩ (by simp) rfl
   clear hdep
   obtain rfl:=F7.out hl7
   cases P
   case false=>
    obtain rfl:=F10.out hl10 (by first|rfl|trivial)
    have q2:W.cell? ⟨w.heap.size,2,none⟩=some (.int .i64 c.seg):=(HC2.out.below HB.out HC2.out.lt).cell 2
    refine Lj rfl (fun K1 hK1=>?_)
    have hK:=Lc hK1
    clear hK1
    go_wp2_with fail
    refine hK.out _ _ ?_;exact aK
   case true=>
    refine Lj rfl (fun K1 hK1=>?_)
    have hK:=Lc hK1
    clear hK1
    go_wp2_with fail
    refine hK.out _ _ ?_;exact aK
  |12,ho=>
   obtain rfl:=Le ho
   have hl9:=hdep ⟨9,.data⟩ (by simp) rfl
   have hl11:=hdep ⟨11,.data⟩ (by simp) rfl
   have hl7:=hdep ⟨7,.guard⟩ (by simp) rfl
   clear hdep
   obtain rfl:=F7.out hl7
   cases P
   case false=>
    obtain rfl:=F9.out hl9 (by first|rfl|trivial)
    obtain rfl:=F11.out hl11 (by first|rfl|trivial)
    have p7:=HX12.out.1
    have p8:=HX12.out.2
    refine Lj rfl (fun K1 hK1=>?_)
    have hK:=Lc hK1
    clear hK1
    go_wp2_with fail
    refine hK.out _ _ ?_;exact aK
   case true=>
    refine Lj rfl (fun K1 hK1=>?_)
    have hK:=Lc hK1
    clear hK1
    go_wp2_with fail
    refine hK.out _ _ ?_;exact aK
  |13,ho=>
   obtain rfl:=Le ho
   have hl7:=hdep ⟨7,.data⟩ (by simp) rfl
   have hl12:=hdep ⟨12,.data⟩ (by simp) rfl
   clear hdep
   obtain rfl:=F7.out hl7
   cases P
   case false=>
    obtain rfl:=F12.out hl12 (by first|rfl|trivial)
    obtain rfl:Q=X12:=HQ.out.2 (by first|rfl|trivial)
    refine Lj rfl (fun K1 hK1=>?_)
    have hK:=Lc hK1
    clear hK1
    go_wp2_with fail
    refine hK.out _ _ ?_;exact aK
   case true=>
    obtain rfl:Q=true:=HQ.out.1 (by first|rfl|trivial)
    refine Lj rfl (fun K1 hK1=>?_)
    have hK:=Lc hK1
    clear hK1
    go_wp2_with fail
    refine hK.out _ _ ?_;exact aK
  |14,ho=>
   obtain rfl:=Le ho
   have hl13:=hdep ⟨13,.data⟩ (by simp) rfl
   clear hdep
   obtain rfl:=F13.out hl13
   refine Lj rfl (fun K1 hK1=>?_)
   have hK:=Lc hK1
   clear hK1
   go_wp2_with fail
   refine hK.out _ _ ?_;exact aK
  |15,ho=>
   obtain rfl:=Le ho
   have hl14:=hdep ⟨14,.guard⟩ (by simp) rfl
   clear hdep
   obtain rfl:=F14.out hl14
   cases Q
   case false=>
    obtain⟨i0,r0,r1,r2,r3,r4,r5⟩:=E5 (HS2.out.below HB.out HS2.out.lt)
    refine Lj rfl (fun K1 hK1=>?_)
    have hK:=Lc hK1
    clear hK1
    go_wp2_with fail
    refine hK.out _ _ ?_;exact aK
   case true=>
    refine Lj rfl (fun K1 hK1=>?_)
    have hK:=Lc hK1
    clear hK1
    go_wp2_with fail
    refine hK.out _ _ ?_;exact aK
  |16,ho=>
   obtain rfl:=Le ho
   have hl14:=hdep ⟨14,.guard⟩ (by simp) rfl
   clear hdep
   obtain rfl:=F14.out hl14
   cases Q
   case false=>
    refine Lj rfl (fun K1 hK1=>?_)
    have hK:=Lc hK1
    clear hK1
    go_wp2_with fail
    refine hK.out _ _ ?_;exact aK
   case true=>
    refine Lj rfl (fun K1 hK1=>?_)
    have hK:=Lc hK1
    clear hK1
    go_wp2_with fail
    refine hK.out _ _ ?_;exact aK
  |17,ho=>
   obtain rfl:=Le ho
   have hl15:=hdep ⟨15,.data⟩ (by simp) rfl
   have hl16:=hdep ⟨16,.data⟩ (by simp) rfl
   have hl14:=hdep ⟨14,.guard⟩ (by simp) rfl
   clear hdep
   obtain rfl:=F14.out hl14
   cases Q
   case false=>
    obtain rfl:=F15.out hl15 (by first|rfl|trivial)
    obtain rfl:=F16.out hl16 (by first|rfl|trivial)
    refine Lj rfl (fun K1 hK1=>?_)
    have hK:=Lc hK1
    clear hK1
    go_wp2_with (go_at_call 199;refine(HAM.out (by first|rfl|trivial) _ HB.out).mono ?_;rintro e1 W1 ⟨rfl,hb1⟩)
    refine hK.out _ _ ?_;exact aK
   case true=>
    refine Lj rfl (fun K1 hK1=>?_)
    have hK:=Lc hK1
    clear hK1
    go_wp2_with fail
    refine hK.out _ _ ?_;exact aK
  |18,ho=>
   obtain rfl:=Le ho
   have hl14:=hdep ⟨14,.guard⟩ (by simp) rfl
   clear hdep
   obtain rfl:=F14.out hl14
   cases Q
   case false=>
    refine Lj rfl (fun K1 hK1=>?_)
    have hK:=Lc hK1
    clear hK1
    go_wp2_with fail
    refine hK.out _ _ ?_;exact aK
   case true=>
    refine Lj rfl (fun K1 hK1=>?_)
    have hK:=Lc hK1
    clear hK1
    go_wp2_with fail
    refine hK.out _ _ ?_;exact aK
  |19,ho=>
   obtain rfl:=Le ho
   have hl18:=hdep ⟨18,.data⟩ (by simp) rfl
   have hl14:=hdep ⟨14,.guard⟩ (by simp) rfl
   clear hdep
   obtain rfl:=F14.out hl14
   cases Q
   case false=>
    obtain rfl:=F18.out hl18 (by first|rfl|trivial)
    have q2:W.cell? ⟨w.heap.size,1,none⟩=some (.int .i64 c.most):=(HC2.out.below HB.out HC2.out.lt).cell 1
    refine Lj rfl (fun K1 hK1=>?_)
    have hK:=Lc hK1
    clear hK1
    go_wp2_with fail
    refine hK.out _ _ ?_;exact aK
   case true=>
    refine Lj rfl (fun K1 hK1=>?_)
    have hK:=Lc hK1
    clear hK1
    go_wp2_with fail
    refine hK.out _ _ ?_;exact aK
  |20,ho=>
   obtain rfl:=Le ho
   have hl17:=hdep ⟨17,.data⟩ (by simp) rfl
   have hl19:=hdep ⟨19,.data⟩ (by simp) rfl
   have hl14:=hdep ⟨14,.guard⟩ (by simp) rfl
   clear hdep
   obtain rfl:=F14.out hl14
   cases Q
   case false=>
    obtain rfl:=F17.out hl17 (by first|rfl|trivial)
    obtain rfl:=F19.out hl19 (by first|rfl|trivial)
    have p7:=HX20.out
    refine Lj rfl (fun K1 hK1=>?_)
    have hK:=Lc hK1
    clear hK1
    go_wp2_with fail
    refine hK.out _ _ ?_;exact aK
   case true=>
    refine Lj rfl (fun K1 hK1=>?_)
    have hK:=Lc hK1
    clear hK1
    go_wp2_with fail
    refine hK.out _ _ ?_;exact aK
  |21,ho=>
   obtain rfl:=Le ho
   have hl14:=hdep ⟨14,.data⟩ (by simp) rfl
   have hl20:=hdep ⟨20,.data⟩ (by simp) rfl
   clear hdep
   obtain rfl:=F14.out hl14
   cases Q
   case false=>
    obtain rfl:=F20.out hl20 (by first|rfl|trivial)
    obtain rfl:V=X20:=HV.out.2 (by first|rfl|trivial)
    refine Lj rfl (fun K1 hK1=>?_)
    have hK:=Lc hK1
    clear hK1
    go_wp2_with fail
    refine hK.out _ _ ?_;exact aK
   case true=>
    obtain rfl:V=true:=HV.out.1 (by first|rfl|trivial)
    refine Lj rfl (fun K1 hK1=>?_)
    have hK:=Lc hK1
    clear hK1
    go_wp2_with fail
    refine hK.out _ _ ?_;exact aK
theorem GG (c:Cfg) (n:Nat) (w:World) (hk:mK c=true) (hn:n<=300):
  Calls prog 149 #[.agg c.row,.int .i64 (n:Nat)] w fun r w'=>r= .returned (.bool (uB c n))/\Below w.heap.size w w':=by
 have hc:=jH hk
 have htk:=fun W=>qo c _ _ _ _ W (yK hc)
 rw[Mq (by have:=hc.m;omega)]at htk
 change ∀W,Calls _ _ _ W (fun r w'=>r= .returned (.int .i64 (Bj c:Nat))/\_)at htk
 have hpw:=fun W=>(kT (n:Int) c.least (Bj c) W (by intro _;omega)).mono (R':=fun r w'=>r= .returned (.bool (uB c n))/\Below W.heap.size W w') (fun r w' h=>⟨h.1,h.2 ▸ Lg _ _⟩)
 obtain⟨C,hC⟩:∃C,Bj c=C:=⟨_,rfl⟩
 obtain⟨Z,hZ⟩:∃C,uB c n=C:=⟨_,rfl⟩
 rw[hC]at htk hpw
 rw[hZ]at hpw ⊢
 have HT:=Lc htk
 have HP:=Lc hpw
 obtain⟨W0,hW0,hb0,b0⟩:=yh w c
 have HW0:=Lc hW0
 have HB0:=Lc hb0
 clear hW0 hb0 hC hZ htk hpw hc hk hn
 obtain⟨i0,q0,q1,q2,q3,q4,q5,q6,q7,q8⟩:=iF b0
 clear b0
 go_enter func149,ntmps149
 go_upto_region 1 with fail
 rw[HW0.out]
 go_region_held3 (fun w'=>(∀bq jq,bq< W0.heap.size->w'.cell? ⟨bq,jq,none⟩=W0.cell? ⟨bq,jq,none⟩)/\(∀bq jq,bq< W0.heap.size->w'.frozen? ⟨bq,jq,none⟩=W0.frozen? ⟨bq,jq,none⟩)/\W0.heap.size<=w'.heap.size/\Below W0.heap.size W0 w') ((with_reducible first|exact SB.init|exact SB.init0|exact SB.alloc _ (by assumption)|exact SB.allocD _ (by assumption)|exact SB.below (by assumption) (by assumption)|assumption))
  (first
   |(go_at_call 139;refine(HT.out _).mono ?_;rintro e21 v21 ⟨rfl,hv21⟩;have hl21:=SB.le hv21 (by assumption);obtain⟨hc21,hz21,hs21⟩:=dC hv21)
   |(go_at_call 137;refine(HP.out _).mono ?_;rintro e22 v22 ⟨rfl,hv22⟩;have hl22:=SB.le hv22 (by assumption);obtain⟨hc22,hz22,hs22⟩:=dC hv22)
   |fail "no arm")
 all_goals
  rename_i hq
  have HB2:=Lc (aa HB0.out (SB.bel hq))
  go_wp2_with fail
  go_ret
  exact⟨rfl,HB2.out⟩
theorem nK (c:Cfg) (g h Y:Nat) (w:World) (hg:c.seg=(g:Int)) (hh:h<=7) (hY:g*2 ^ h=Y) (hb:Y<=1000000):
  Calls prog 165 #[.agg c.row,.int .i64 (h:Nat)] w fun r w'=>r= .returned (.int .i64 (Y:Nat))/\Below w.heap.size w w':=by
 have hpo:=fun W=>jZ h W (by omega)
 obtain⟨P,hP⟩:∃P,2 ^ h=P:=⟨_,rfl⟩
 rw[hP]at hpo hY
 have hw:IntKind.i64.wrap ((g:Int)*(P:Int))=(Y:Int):=by
  rw[show(g:Int)*(P:Int)=(Y:Int)by rw[<-hY,Int.natCast_mul]]
  exact Lh _ (by omega)
 have HPO:=Lc hpo
 obtain⟨W0,hW0,hb0,b0⟩:=yh w c
 have HW0:=Lc hW0
 have HB0:=Lc hb0
 have q2:W0.cell? ⟨w.heap.size,2,none⟩=some (.int .i64 (g:Int)):=(b0.cell 2).trans (by rw[<-hg];rfl)
 clear hW0 hb0 b0 hg hpo hP hY hb hh
 go_enter func165,ntmps165
 go_upto_region 1 with fail
 rw[HW0.out]
 go_quiet ((go_at_call 154;exact Calls.quiet_of_same (HPO.out _)))
 go_wp2_with fail
 go_ret
 exact⟨rfl,aa HB0.out (av (Lg _ _) _)⟩
theorem yc (c:Cfg) (n h m:Nat) (w:World) (hk:mK c=true) (hn:n<=300) (hi:uB c n=true) (hh:h<=aI c n) (hm:m<=c.seg.toNat*2 ^ h):
  Calls prog 166 #[.agg c.row,.int .i64 (n:Nat),.int .i64 (h:Nat),.int .i64 (m:Nat)] w fun r w'=>r= .returned (.bool (mD c n h m))/\Below w.heap.size w w':=by
 have hc:=jH hk
 have hH6:=(aO hc hn hi).2.2.2.1
 have hm9:m<=300:=by
  have h1:=(aO hc hn hi).2.2.1
  have h2:c.seg.toNat*2 ^ h<=c.seg.toNat*2 ^ aI c n:=MW _ (LQ (n:=2) (by decide) hh)
  omega
 have hY9:c.seg.toNat*2 ^ h<=300:=by
  have h1:=(aO hc hn hi).2.2.1
  have h2:c.seg.toNat*2 ^ h<=c.seg.toNat*2 ^ aI c n:=MW _ (LQ (n:=2) (by decide) hh)
  omega
 have hht:=fun W=>iq c n c.seg.toNat W (by have:=hc.g;omega) (by omega) (by have:=hc.g;omega) (aO hc hn hi).2.2.2.2
 change ∀W,Calls _ _ _ W (fun r w'=>r= .returned (.int .i64 (aI c n:Nat))/\_)at hht
 have hwd:=fun W=>nK c c.seg.toNat h _ W (by have:=hc.g;omega) (by omega) rfl (by omega)
 obtain⟨V,hV⟩:∃V,mD c n h m=V:=⟨_,rfl⟩
 rw[hV]
 unfold mD oz Ct at hV
 rw[Mq (by have:=hc.d;omega)]at hV
 obtain⟨Y,hY⟩:∃Y,c.seg.toNat*2 ^ h=Y:=⟨_,rfl⟩
 obtain⟨H,hH⟩:∃C,aI c n=C:=⟨_,rfl⟩
 rw[hY]at hwd hY9 hV
 rw[hH]at hht hH6 hh hV
 have HHT:=Lc hht
 have HWD:=Lc hwd
 have HV:=Lc hV
 have hd:=hc.d
 have ho:=hc.o
 obtain⟨W0,hW0,hb0,b0⟩:=yh w c
 have HW0:=Lc hW0
 have HB0:=Lc hb0
 have HC0:=Lc b0
 clear hW0 hb0 hY hH hc hk hn hi hm hht hwd hV
 have HN:=Lc (Lr hH6 (Lr hm9 (Lr hY9 (Lr hd (Lr ho hh)))))
 clear hH6 hm9 hY9 hd ho hh
 obtain⟨i0,q0,q1,q2,q3,q4,q5,q6,q7,q8⟩:=iF b0
 clear b0
 go_enter func166,ntmps166
 go_upto_region 1 with fail
 rw[HW0.out]
 go_wp2_with fail
 refine(HHT.out _).mono ?_
 rintro e w1 ⟨rfl,hb1⟩
 have HB1:=Lc (aa HB0.out hb1)
 have bC1:=HC0.out.below hb1 HC0.out.lt
 clear hb1 q0 q1 q2 q3 q4 q5 q6 q7 q8 i0 HW0 HB0 HC0
 obtain⟨i0,q0,q1,q2,q3,q4,q5,q6,q7,q8⟩:=iF bC1
 clear bC1
 obtain⟨p1,p2,p3,p4,p5,p6⟩:=HN.out
 by_cases hz:H=0
 ·have hi0:(H:Int)=0:=by omega
  have hh0:h=0:=by omega
  have b1:=bQ (x:=(m:Int)) (y:=c.den) (n:=300) (m:=64) (by omega) (by omega)
  have b2:=bQ (x:=(Y:Int)) (y:=c.rootHigh) (n:=300) (m:=64) (by omega) (by omega)
  have hv:=HV.out
  rw[if_neg (by omega),if_neg (by omega)]at hv
  obtain⟨x1,e1⟩:∃x,(m:Int)*c.den=x:=⟨_,rfl⟩
  obtain⟨x2,e2⟩:∃x,(Y:Int)*c.rootHigh=x:=⟨_,rfl⟩
  rw[e1]at b1 hv
  rw[e2]at b2 hv
  have y1:IntKind.i64.wrap ((m:Int)*c.den)=x1:=by rw[e1];exact Lh _ (by omega)
  have y2:IntKind.i64.wrap ((Y:Int)*c.rootHigh)=x2:=by rw[e2];exact Lh _ (by omega)
  have HR:=Lc hv
  clear e1 e2 b1 b2 hv p1 p2 p3 p4 p5 p6 hz hh0
  go_upto_region 3 with fail
  go_region_held3 (fun w'=>(∀bq jq,bq< w1.heap.size->w'.cell? ⟨bq,jq,none⟩=w1.cell? ⟨bq,jq,none⟩)/\(∀bq jq,bq< w1.heap.size->w'.frozen? ⟨bq,jq,none⟩=w1.frozen? ⟨bq,jq,none⟩)/\w1.heap.size<=w'.heap.size/\Below w1.heap.size w1 w') ((with_reducible first|exact SB.init|exact SB.init0|exact SB.alloc _ (by assumption)|exact SB.allocD _ (by assumption)|exact SB.below (by assumption) (by assumption)|assumption))
    (first
     |(go_at_call 165;refine(HWD.out _).mono ?_;rintro e21 v21 ⟨rfl,hv21⟩;have hl21:=SB.le hv21 (by assumption);obtain⟨hc21,hz21,hs21⟩:=dC hv21)
     |fail "no arm")
  all_goals
   rename_i hq
   have HB2:=Lc (aa HB1.out (SB.bel hq))
   go_wp2_with fail
   go_ret
   exact⟨by first|exact rfl|(rw[HR.out];exact rfl),HB2.out⟩
 ·have hi0:¬(H:Int)=0:=by omega
  have hv:=HV.out
  rw[if_pos (by omega),if_pos (by omega)]at hv
  have a1:=bQ (x:=(m:Int)) (y:=(H:Int)) (n:=301) (m:=6) (by omega) (by omega)
  obtain⟨x1,e1⟩:∃x,(m:Int)*(H:Int)=x:=⟨_,rfl⟩
  rw[e1]at a1
  have a2:=bQ (x:=x1) (y:=c.den) (n:=301*6) (m:=64) (by omega) (by omega)
  obtain⟨x2,e2⟩:∃x,x1*c.den=x:=⟨_,rfl⟩
  rw[e2]at a2
  obtain⟨x3,e3⟩:∃x,(H:Int)-(h:Int)=x:=⟨_,rfl⟩
  have a4:=bQ (x:=c.leafHigh) (y:=x3) (n:=64) (m:=6) (by omega) (by omega)
  obtain⟨x4,e4⟩:∃x,c.leafHigh*x3=x:=⟨_,rfl⟩
  rw[e4]at a4
  have a5:=bQ (x:=c.rootHigh) (y:=(h:Int)) (n:=64) (m:=6) (by omega) (by omega)
  obtain⟨x5,e5⟩:∃x,c.rootHigh*(h:Int)=x:=⟨_,rfl⟩
  rw[e5]at a5
  obtain⟨x6,e6⟩:∃x,x4+x5=x:=⟨_,rfl⟩
  have a7:=bQ (x:=(Y:Int)) (y:=x6) (n:=300) (m:=1000) (by omega) (by omega)
  obtain⟨x7,e7⟩:∃x,(Y:Int)*x6=x:=⟨_,rfl⟩
  rw[e7]at a7
  have y1:IntKind.i64.wrap ((m:Int)*(H:Int))=x1:=by rw[e1];exact Lh _ (by omega)
  have y2:IntKind.i64.wrap (x1*c.den)=x2:=by rw[e2];exact Lh _ (by omega)
  have y3:IntKind.i64.wrap ((H:Int)-(h:Int))=x3:=by rw[e3];exact Lh _ (by omega)
  have y4:IntKind.i64.wrap (c.leafHigh*x3)=x4:=by rw[e4];exact Lh _ (by omega)
  have y5:IntKind.i64.wrap (c.rootHigh*(h:Int))=x5:=by rw[e5];exact Lh _ (by omega)
  have y6:IntKind.i64.wrap (x4+x5)=x6:=by rw[e6];exact Lh _ (by omega)
  have y7:IntKind.i64.wrap ((Y:Int)*x6)=x7:=by rw[e7];exact Lh _ (by omega)
  have HE1:(m:Int)*(c.den*(H:Int))=x2:=by rw[<-e2,<-e1,Int.mul_assoc,Int.mul_comm c.den]
  have HE2:(Y:Int)*(c.leafHigh*(H:Int)+(c.rootHigh-c.leafHigh)*(h:Int))=x7:=by rw[<-e7,<-e6,<-e4,<-e3,<-e5,Int.mul_sub,Int.sub_mul];congr 1;omega
  rw[HE1,HE2]at hv
  have HR:=Lc hv
  clear hv HE1 HE2 e1 e2 e3 e4 e5 e6 e7 a1 a2 a4 a5 a7 p1 p2 p3 p4 p5 p6 hz
  go_upto_region 4 with fail
  go_region_held3 (fun w'=>(∀bq jq,bq< w1.heap.size->w'.cell? ⟨bq,jq,none⟩=w1.cell? ⟨bq,jq,none⟩)/\(∀bq jq,bq< w1.heap.size->w'.frozen? ⟨bq,jq,none⟩=w1.frozen? ⟨bq,jq,none⟩)/\w1.heap.size<=w'.heap.size/\Below w1.heap.size w1 w') ((with_reducible first|exact SB.init|exact SB.init0|exact SB.alloc _ (by assumption)|exact SB.allocD _ (by assumption)|exact SB.below (by assumption) (by assumption)|assumption))
    (first
     |(go_at_call 165;refine(HWD.out _).mono ?_;rintro e21 v21 ⟨rfl,hv21⟩;have hl21:=SB.le hv21 (by assumption);obtain⟨hc21,hz21,hs21⟩:=dC hv21)
     |fail "no arm")
  all_goals
   rename_i hq
   have HB2:=Lc (aa HB1.out (SB.bel hq))
   go_wp2_with fail
   go_ret
   exact⟨by first|exact rfl|(rw[HR.out];exact rfl),HB2.out⟩
theorem Bd (c:Cfg) (n h m:Nat) (w:World) (hk:mK c=true) (hn:n<=300) (hi:uB c n=true) (hh:h<=aI c n) (hm:m<=c.seg.toNat*2 ^ h):
  Calls prog 167 #[.agg c.row,.int .i64 (n:Nat),.int .i64 (h:Nat),.int .i64 (m:Nat)] w fun r w'=>r= .returned (.bool (gI c n h m))/\Below w.heap.size w w':=by
 have hc:=jH hk
 have hH6:=(aO hc hn hi).2.2.2.1
 have hm9:m<=300:=by
  have h1:=(aO hc hn hi).2.2.1
  have h2:c.seg.toNat*2 ^ h<=c.seg.toNat*2 ^ aI c n:=MW _ (LQ (n:=2) (by decide) hh)
  omega
 have hY9:c.seg.toNat*2 ^ h<=300:=by
  have h1:=(aO hc hn hi).2.2.1
  have h2:c.seg.toNat*2 ^ h<=c.seg.toNat*2 ^ aI c n:=MW _ (LQ (n:=2) (by decide) hh)
  omega
 have hht:=fun W=>iq c n c.seg.toNat W (by have:=hc.g;omega) (by omega) (by have:=hc.g;omega) (aO hc hn hi).2.2.2.2
 change ∀W,Calls _ _ _ W (fun r w'=>r= .returned (.int .i64 (aI c n:Nat))/\_)at hht
 have hwd:=fun W=>nK c c.seg.toNat h _ W (by have:=hc.g;omega) (by omega) rfl (by omega)
 obtain⟨V,hV⟩:∃V,gI c n h m=V:=⟨_,rfl⟩
 rw[hV]
 unfold gI oz Ct at hV
 rw[Mq (by have:=hc.d;omega)]at hV
 obtain⟨Y,hY⟩:∃Y,c.seg.toNat*2 ^ h=Y:=⟨_,rfl⟩
 obtain⟨H,hH⟩:∃C,aI c n=C:=⟨_,rfl⟩
 rw[hY]at hwd hY9 hV
 rw[hH]at hht hH6 hh hV
 have HHT:=Lc hht
 have HWD:=Lc hwd
 have HV:=Lc hV
 have HP0:=Lc (show¬(n:Int)=c.least->0< H from fun hne=>by
  rcases Nat.eq_zero_or_pos H with h0|h0
  ·have h1:=(aO hc hn hi).2.2.1
   rw[hH,h0]at h1
   have h2:=(aO hc hn hi).1
   have h3:=hc.l
   have h4:=hc.g
   omega
  ·exact h0)
 have hd:=hc.d
 have ho:=hc.o
 obtain⟨W0,hW0,hb0,b0⟩:=yh w c
 have HW0:=Lc hW0
 have HB0:=Lc hb0
 have HC0:=Lc b0
 clear hW0 hb0 hY hH hc hk hn hi hm hht hwd hV
 have HN:=Lc (Lr hH6 (Lr hm9 (Lr hY9 (Lr hd (Lr ho hh)))))
 clear hH6 hm9 hY9 hd ho hh
 obtain⟨i0,q0,q1,q2,q3,q4,q5,q6,q7,q8⟩:=iF b0
 clear b0
 go_enter func167,ntmps167
 go_upto_region 1 with fail
 rw[HW0.out]
 go_wp2_with fail
 refine(HHT.out _).mono ?_
 rintro e w1 ⟨rfl,hb1⟩
 have HB1:=Lc (aa HB0.out hb1)
 have bC1:=HC0.out.below hb1 HC0.out.lt
 clear hb1 q0 q1 q2 q3 q4 q5 q6 q7 q8 i0 HW0 HB0 HC0
 obtain⟨i0,q0,q1,q2,q3,q4,q5,q6,q7,q8⟩:=iF bC1
 clear bC1
 obtain⟨p1,p2,p3,p4,p5,p6⟩:=HN.out
 by_cases he:(n:Int)=c.least
 ·have he2:decide ((n:Int)=c.least)=true:=decide_eq_true he
  have HR:=Lc (show V=true by rw[<-HV.out,he2];rfl)
  clear p1 p2 p3 p4 p5 p6
  go_upto_region 2 with fail
  go_quiet (fail)
  go_wp2_with fail
  go_ret
  exact⟨by first|exact rfl|(rw[HR.out];exact rfl),aa HB1.out (av (Lg _ _) _)⟩
 ·have he2:decide ((n:Int)=c.least)=false:=decide_eq_false he
  have he3:((n:Int)==c.least)=false:=beq_eq_false_iff_ne.2 he
  have hH0:0< H:=HP0.out he
  have hv:=HV.out
  rw[he2,Bool.false_or,if_pos hH0,if_pos hH0]at hv
  have hwm:IntKind.i64.wrap ((m:Int)+1)=((m+1:Nat):Int):=by rw[Lh _ (by omega)];omega
  have hm2:m+1<=301:=by omega
  obtain⟨m1,hm1⟩:∃x,m+1=x:=⟨_,rfl⟩
  rw[hm1]at hwm hv hm2
  clear hm1
  have a1:=bQ (x:=(m1:Int)) (y:=(H:Int)) (n:=301) (m:=6) (by omega) (by omega)
  obtain⟨x1,e1⟩:∃x,(m1:Int)*(H:Int)=x:=⟨_,rfl⟩
  rw[e1]at a1
  have a2:=bQ (x:=x1) (y:=c.den) (n:=301*6) (m:=64) (by omega) (by omega)
  obtain⟨x2,e2⟩:∃x,x1*c.den=x:=⟨_,rfl⟩
  rw[e2]at a2
  obtain⟨x3,e3⟩:∃x,(H:Int)-(h:Int)=x:=⟨_,rfl⟩
  have a4:=bQ (x:=c.leafLow) (y:=x3) (n:=64) (m:=6) (by omega) (by omega)
  obtain⟨x4,e4⟩:∃x,c.leafLow*x3=x:=⟨_,rfl⟩
  rw[e4]at a4
  have a5:=bQ (x:=c.rootLow) (y:=(h:Int)) (n:=64) (m:=6) (by omega) (by omega)
  obtain⟨x5,e5⟩:∃x,c.rootLow*(h:Int)=x:=⟨_,rfl⟩
  rw[e5]at a5
  obtain⟨x6,e6⟩:∃x,x4+x5=x:=⟨_,rfl⟩
  have a7:=bQ (x:=(Y:Int)) (y:=x6) (n:=300) (m:=1000) (by omega) (by omega)
  obtain⟨x7,e7⟩:∃x,(Y:Int)*x6=x:=⟨_,rfl⟩
  rw[e7]at a7
  have y1:IntKind.i64.wrap ((m1:Int)*(H:Int))=x1:=by rw[e1];exact Lh _ (by omega)
  have y2:IntKind.i64.wrap (x1*c.den)=x2:=by rw[e2];exact Lh _ (by omega)
  have y3:IntKind.i64.wrap ((H:Int)-(h:Int))=x3:=by rw[e3];exact Lh _ (by omega)
  have y4:IntKind.i64.wrap (c.leafLow*x3)=x4:=by rw[e4];exact Lh _ (by omega)
  have y5:IntKind.i64.wrap (c.rootLow*(h:Int))=x5:=by rw[e5];exact Lh _ (by omega)
  have y6:IntKind.i64.wrap (x4+x5)=x6:=by rw[e6];exact Lh _ (by omega)
  have y7:IntKind.i64.wrap ((Y:Int)*x6)=x7:=by rw[e7];exact Lh _ (by omega)
  have HE1:(m1:Int)*(c.den*(H:Int))=x2:=by rw[<-e2,<-e1,Int.mul_assoc,Int.mul_comm c.den]
  have HE2:(Y:Int)*(c.leafLow*(H:Int)+(c.rootLow-c.leafLow)*(h:Int))=x7:=by rw[<-e7,<-e6,<-e4,<-e3,<-e5,Int.mul_sub,Int.sub_mul];congr 1;omega
  rw[HE1,HE2]at hv
  have HR:=Lc hv
  clear hv HE1 HE2 e1 e2 e3 e4 e5 e6 e7 a1 a2 a4 a5 a7 p1 p2 p3 p4 p5 p6 hm2 he hH0
  go_upto_region 2 with fail
  go_region_held3 (fun w'=>(∀bq jq,bq< w1.heap.size->w'.cell? ⟨bq,jq,none⟩=w1.cell? ⟨bq,jq,none⟩)/\(∀bq jq,bq< w1.heap.size->w'.frozen? ⟨bq,jq,none⟩=w1.frozen? ⟨bq,jq,none⟩)/\w1.heap.size<=w'.heap.size/\Below w1.heap.size w1 w') ((with_reducible first|exact SB.init|exact SB.init0|exact SB.alloc _ (by assumption)|exact SB.allocD _ (by assumption)|exact SB.below (by assumption) (by assumption)|assumption))
    (first
     |(go_at_call 165;refine(HWD.out _).mono ?_;rintro e21 v21 ⟨rfl,hv21⟩;have hl21:=SB.le hv21 (by assumption);obtain⟨hc21,hz21,hs21⟩:=dC hv21)
     |fail "no arm")
  all_goals
   rename_i hq
   have HB2:=Lc (aa HB1.out (SB.bel hq))
   go_wp2_with fail
   go_ret
   exact⟨by first|exact rfl|(rw[HR.out];exact rfl),HB2.out⟩
theorem uC (c:Cfg) (w:World):Calls prog 115 #[.agg c.row] w fun r w'=>r= .returned (.bool (mK c))/\Below w.heap.size w w':=by
 obtain⟨W0,hW0⟩:∃W0,w.alloc (.cells c.row 24)=W0:=⟨_,rfl⟩
 have hb0:Below w.heap.size w W0:=by rw[<-hW0];exact(Lg _ _).alloc (Lf _) _
 have b0:Blk W0 w.heap.size 24 c.row:=by rw[<-hW0];exact Blk.new _ _ _
 have HW0:=Lc hW0
 have HB0:=Lc hb0
 have HC0:=Lc b0
 have hp1:=fun W=>kT c.seg 4 64 W (by omega)
 have hp2:=fun W=>kT c.least c.seg 256 W (by omega)
 obtain⟨t4,h4⟩:∃t,gY c.seg 4 64=t:=⟨_,rfl⟩
 obtain⟨t5,h5⟩:∃t,gY c.least c.seg 256=t:=⟨_,rfl⟩
 rw[h4]at hp1
 rw[h5]at hp2
 obtain⟨V,hV⟩:∃V,mK c=V:=⟨_,rfl⟩
 rw[hV]
 have hno1:∀b∈iO c,b=false->V=false:=fun b hb h=>by
  rw[<-hV];unfold mK
  rw[show(iO c).all id=false from by rw[List.all_eq_false];exact⟨b,hb,by rw[h];simp⟩];rfl
 have hno2:∀b∈jF c,b=false->V=false:=fun b hb h=>by
  rw[<-hV];unfold mK
  rw[show(jF c).all id=false from by rw[List.all_eq_false];exact⟨b,hb,by rw[h];simp⟩,Bool.and_false];rfl
 have hno3:∀b∈mF c,b=false->V=false:=fun b hb h=>by
  rw[<-hV];unfold mK
  rw[show(mF c).all id=false from by rw[List.all_eq_false];exact⟨b,hb,by rw[h];simp⟩,Bool.and_false];rfl
 unfold iO at hno1
 unfold jF at hno2
 unfold mF at hno3
 rw[h4,h5]at hno1
 have HV:=Lc hV
 have HP1:=Lc hp1
 have HP2:=Lc hp2
 have H4:=Lc h4
 have H5:=Lc h5
 have N1:=Lc hno1
 have N2:=Lc hno2
 have N3:=Lc hno3
 clear hW0 hb0 hp1 hp2 h4 h5 hV hno1 hno2 hno3
 have q0:=b0.cell
 have i0:=b0.lt
 clear b0
 go_enter func115,ntmps115
 go_upto_region 1 with fail
 rw[HW0.out]
 by_cases a1:c.tag< 1
 case pos=>
  have HF:Hid (V=false):=N1.out _ (Mm) (decide_eq_false (by omega))
  go_wp2_with fail
  go_ret
  exact⟨by rw[HF.out];rfl,HB0.out⟩
 case neg=>
 by_cases a2:3< c.tag
 case pos=>
  have HF:Hid (V=false):=N1.out _ (Lx _ (Mm)) (decide_eq_false (by omega))
  go_wp2_with fail
  go_ret
  exact⟨by rw[HF.out];rfl,HB0.out⟩
 case neg=>
 by_cases a3:c.most< 1
 case pos=>
  have HF:Hid (V=false):=N1.out _ (Lx _ (Lx _ (Mm))) (decide_eq_false (by omega))
  go_wp2_with fail
  go_ret
  exact⟨by rw[HF.out];rfl,HB0.out⟩
 case neg=>
 by_cases a4:16384< c.most
 case pos=>
  have HF:Hid (V=false):=N1.out _ (Lx _ (Lx _ (Lx _ (Mm)))) (decide_eq_false (by omega))
  go_wp2_with fail
  go_ret
  exact⟨by rw[HF.out];rfl,HB0.out⟩
 case neg=>
 go_wp2_with fail
 refine(HP1.out _).mono ?_
 rintro e v1 ⟨rfl,hv1⟩
 subst hv1
 cases hb1:t4 with
 |false=>
  have HF:Hid (V=false):=N1.out _ (Lx _ (Lx _ (Lx _ (Lx _ (Mm))))) hb1
  go_wp2_with fail
  go_ret
  exact⟨by rw[HF.out];rfl,HB0.out⟩
 |true=>
 go_wp2_with fail
 refine(HP2.out _).mono ?_
 rintro e v2 ⟨rfl,hv2⟩
 subst hv2
 cases hb2:t5 with
 |false=>
  have HF:Hid (V=false):=N1.out _ (Lx _ (Lx _ (Lx _ (Lx _ (Lx _ (Mm)))))) hb2
  go_wp2_with fail
  go_ret
  exact⟨by rw[HF.out];rfl,HB0.out⟩
 |true=>
 by_cases a7:c.den< 1
 case pos=>
  have HF:Hid (V=false):=N1.out _ (Lx _ (Lx _ (Lx _ (Lx _ (Lx _ (Lx _ (Mm))))))) (decide_eq_false (by omega))
  go_wp2_with fail
  go_ret
  exact⟨by rw[HF.out];rfl,HB0.out⟩
 case neg=>
 by_cases a8:64< c.den
 case pos=>
  have HF:Hid (V=false):=N1.out _ (Lx _ (Lx _ (Lx _ (Lx _ (Lx _ (Lx _ (Lx _ (Mm)))))))) (decide_eq_false (by omega))
  go_wp2_with fail
  go_ret
  exact⟨by rw[HF.out];rfl,HB0.out⟩
 case neg=>
 by_cases b1:c.leafLow< 0
 case pos=>
  have HF:Hid (V=false):=N2.out _ (Mm) (decide_eq_false (by omega))
  go_wp2_with fail
  go_ret
  exact⟨by rw[HF.out];rfl,HB0.out⟩
 case neg=>
 by_cases b2:c.rootLow<=c.leafLow
 case pos=>
  have HF:Hid (V=false):=N2.out _ (Lx _ (Mm)) (decide_eq_false (by omega))
  go_wp2_with fail
  go_ret
  exact⟨by rw[HF.out];rfl,HB0.out⟩
 case neg=>
 by_cases b4:c.leafHigh<=c.rootHigh
 case pos=>
  have HF:Hid (V=false):=N2.out _ (Lx _ (Lx _ (Lx _ (Mm)))) (decide_eq_false (by omega))
  go_wp2_with fail
  go_ret
  exact⟨by rw[HF.out];rfl,HB0.out⟩
 case neg=>
 by_cases b5:c.den< c.leafHigh
 case pos=>
  have HF:Hid (V=false):=N2.out _ (Lx _ (Lx _ (Lx _ (Lx _ (Mm))))) (decide_eq_false (by omega))
  go_wp2_with fail
  go_ret
  exact⟨by rw[HF.out];rfl,HB0.out⟩
 case neg=>
 by_cases b6:c.den< c.rootLow
 case pos=>
  have HF:Hid (V=false):=N3.out _ (Lx _ (Mm)) (decide_eq_false (by omega))
  go_wp2_with fail
  go_ret
  exact⟨by rw[HF.out];rfl,HB0.out⟩
 case neg=>
 by_cases d1:c.rootHigh< 0
 case pos=>
  have HF:Hid (V=false):=N3.out _ (Mm) (decide_eq_false (by omega))
  go_wp2_with fail
  go_ret
  exact⟨by rw[HF.out];rfl,HB0.out⟩
 case neg=>
 have hz1:IntKind.i64.wrap (2*c.rootHigh)=2*c.rootHigh:=Lh _ (by omega)
 have hz2:IntKind.i64.wrap (8*c.rootLow)=8*c.rootLow:=Lh _ (by omega)
 have hz3:IntKind.i64.wrap (2*c.den)=2*c.den:=Lh _ (by omega)
 subst hb1 hb2
 have hsg:=H4.out
 have hls:=H5.out
 simp only[gY,LZ,decide_eq_true_eq]at hsg hls
 obtain⟨⟨hx5,hx6⟩,hx7⟩:=hsg
 obtain⟨⟨hx8,hx9⟩,hx10⟩:=hls
 have hm:0<=c.rootLow*c.least/\c.rootLow*c.least<=16384:=by
  have h1:0<=c.rootLow:=by omega
  have h2:c.rootLow<=64:=by omega
  refine⟨Int.mul_nonneg h1 (by omega),?_⟩
  have:=Int.mul_le_mul h2 hx9 (by omega) (by omega)
  omega
 have hz4:IntKind.i64.wrap (c.rootLow*c.least)=c.rootLow*c.least:=Lh _ (by omega)
 have HX:=Lc (show(4<=c.seg/\c.seg<=64)/\(c.seg<=c.least/\c.least<=256)/\pow2 c.seg.toNat=true/\pow2 c.least.toNat=true from⟨⟨hx5,hx6⟩,⟨hx8,hx9⟩,hx7,hx10⟩)
 clear hx5 hx6 hx7 hx8 hx9 hx10 hm
 by_cases d2:2*c.rootHigh< c.den
 case pos=>
  have HF:Hid (V=false):=N3.out _ (Mm) (decide_eq_false (by omega))
  go_wp2_with fail
  go_ret
  exact⟨by rw[HF.out];rfl,HB0.out⟩
 case neg=>
 by_cases d3:c.den< 8*c.rootLow
 case pos=>
  have HF:Hid (V=false):=N3.out _ (Lx _ (Mm)) (decide_eq_false (by omega))
  go_wp2_with fail
  go_ret
  exact⟨by rw[HF.out];rfl,HB0.out⟩
 case neg=>
 by_cases d4:c.rootLow*c.least< 2*c.den
 case pos=>
  have HF:Hid (V=false):=N3.out _ (Lx _ (Lx _ (Mm))) (decide_eq_false (by omega))
  go_wp2_with fail
  go_ret
  exact⟨by rw[HF.out];rfl,HB0.out⟩
 case neg=>
 go_upto_region 7 with fail
 clear hz1 hz2 hz3 hz4
 obtain⟨⟨hx5,hx6⟩,⟨hx8,hx9⟩,hx7,hx10⟩:=HX.out
 have hts:TakeS c c.most.toNat c.den.toNat c.rootHigh.toNat c.least.toNat:=⟨(Mq (by omega)).symm,(Mq (by omega)).symm,(Mq (by omega)).symm,by omega,by omega,by omega,by omega,by omega,by omega,by omega,by omega⟩
 have htl:=yI (n:=c.most.toNat) (den:=c.den.toNat) (high:=c.rootHigh.toNat) hts.n2 hts.dh (kC (s:=c.least.toNat) hts.n2 hts.dh (by have:=hts.l1;omega) hts.l2)
 have htk:=fun W=>qo c c.most.toNat c.den.toNat c.rootHigh.toNat c.least.toNat W hts
 have htall:c.tall=Nat.log2 (fD c.most.toNat c.den.toNat c.rootHigh.toNat c.least.toNat/c.seg.toNat):=rfl
 have htl2:fD c.most.toNat c.den.toNat c.rootHigh.toNat c.least.toNat<=65536/\c.least.toNat<=fD c.most.toNat c.den.toNat c.rootHigh.toNat c.least.toNat:=htl
 obtain⟨T,hT⟩:∃T,fD c.most.toNat c.den.toNat c.rootHigh.toNat c.least.toNat=T:=⟨_,rfl⟩
 rw[hT]at htk htall htl2
 rw[Mq (by omega:0<=c.most)]at htk
 have hht:=fun W=>iq c T c.seg.toNat W (Mq (by omega)).symm htl2.1 (by omega) (by omega)
 rw[<-htall]at hht
 obtain⟨t,ht⟩:∃t,c.tall=t:=⟨_,rfl⟩
 rw[ht]at hht htall
 have ht16:t<=16:=by
  rw[htall]
  exact lS (Nat.le_trans (Nu _ _) htl2.1)
 have hm1:0<=c.den*(t:Int)/\c.den*(t:Int)<=1024:=by
  refine⟨Int.mul_nonneg (by omega) (by omega),?_⟩
  have:=Int.mul_le_mul (show c.den<=64 by omega) (show(t:Int)<=16 by omega) (by omega) (by omega)
  omega
 have hm2:0<=(c.leafHigh-c.rootHigh)*c.seg/\(c.leafHigh-c.rootHigh)*c.seg<=4096:=by
  refine⟨Int.mul_nonneg (by omega) (by omega),?_⟩
  have:=Int.mul_le_mul (show c.leafHigh-c.rootHigh<=64 by omega) hx6 (by omega) (by omega)
  omega
 have hz1:IntKind.i64.wrap (c.leafHigh-c.rootHigh)=c.leafHigh-c.rootHigh:=Lh _ (by omega)
 have hz2:IntKind.i64.wrap ((c.leafHigh-c.rootHigh)*c.seg)=(c.leafHigh-c.rootHigh)*c.seg:=Lh _ (by omega)
 have hz3:IntKind.i64.wrap (c.den*(t:Int))=c.den*(t:Int):=Lh _ (by omega)
 have HE:Hid (V=decide (c.den*(t:Int)<=(c.leafHigh-c.rootHigh)*c.seg)):=by
  show _=_
  rw[<-HV.out]
  unfold mK Fp
  rw[show(iO c).all id=true from by unfold iO;rw[H4.out,H5.out];simp only[List.all_cons,List.all_nil,id,LZ,decide_eq_true_eq,Bool.and_true,true_and];omega,
   show(jF c).all id=true from by unfold jF;simp only[List.all_cons,List.all_nil,id,LZ,decide_eq_true_eq,Bool.and_true];omega,
   show(mF c).all id=true from by unfold mF;simp only[List.all_cons,List.all_nil,id,LZ,decide_eq_true_eq,Bool.and_true];omega,ht]
  rfl
 have HTK:=Lc htk
 have HHT:=Lc hht
 have i3:=HC0.out.lt
 clear hts htl htk htall htl2 hT hht ht hx5 hx6 hx7 hx8 hx9 hx10 hm1 hm2 ht16
 go_cut [2]from 106 to 123 (fun v wx=>v= .bool (decide (c.den*(t:Int)<=(c.leafHigh-c.rootHigh)*c.seg))/\Below v2.heap.size v2 wx)
 case first=>
  go_region_held3 (fun w'=>(∀bq jq,bq< v2.heap.size->w'.cell? ⟨bq,jq,none⟩=v2.cell? ⟨bq,jq,none⟩)/\(∀bq jq,bq< v2.heap.size->w'.frozen? ⟨bq,jq,none⟩=v2.frozen? ⟨bq,jq,none⟩)/\v2.heap.size<=w'.heap.size/\Below v2.heap.size v2 w') ((with_reducible first|exact SB.init|exact SB.init0|exact SB.alloc _ (by assumption)|exact SB.allocD _ (by assumption)|exact SB.below (by assumption) (by assumption)|assumption))
   (first
    |(go_at_call 139;refine(HTK.out _).mono ?_;rintro e21 v21 ⟨rfl,hv21⟩;have hl21:=SB.le hv21 (by assumption);obtain⟨hc21,hz21,hs21⟩:=dC hv21)
    |(go_at_call 138;refine(HHT.out _).mono ?_;rintro e22 v22 ⟨rfl,hv22⟩;have hl22:=SB.le hv22 (by assumption);obtain⟨hc22,hz22,hs22⟩:=dC hv22)
    |fail "no arm")
  all_goals
   go_wp2_with fail
   go_meet
   exact⟨by simp,SB.bel (by assumption)⟩
 case rest=>
  obtain⟨rfl,hb4⟩:=hcut
  go_wp2_with fail
  go_ret
  exact⟨by rw[HE.out];rfl,aa HB0.out hb4⟩
theorem xc (c:Cfg) (s:Ss) (w:World) (hs:SsAt w s) (ho:SsOk s) (hk:mK c=true) (hz:uB c s.ks.length=true) (hm:bB s=true) (hse:s.seg=c.seg):
  Calls prog 151 #[.agg c.row,.agg s.row] w fun r w'=>r= .returned (.bool (gW c s))/\Below w.heap.size w w':=by
 obtain⟨R,hR⟩:∃R,gW c s=R:=⟨_,rfl⟩
 rw[hR]
 have HR:=Lc hR
 obtain⟨W0,hW0,hb0,b0,bs0⟩:=CO w c s
 have HW0:=Lc hW0
 have HB0:=Lc hb0
 have HC0:=Lc b0
 have HS0:=Lc bs0
 have HSA:=Lc (hs.below hb0)
 have HOK:=Lc ho
 have hci:=jH hk
 have hif:=aO hci ho.kl hz
 have hsg:=fC hm
 rw[hse]at hsg
 have hht:=fun W=>iq c s.ks.length c.seg.toNat W (by have:=hci.g;omega) (by have:=ho.kl;omega) (by have:=hci.g;omega) hif.2.2.2.2
 change ∀W,Calls _ _ _ W (fun r w'=>r= .returned (.int .i64 (aI c s.ks.length:Nat))/\_)at hht
 obtain⟨H,hH⟩:∃C,aI c s.ks.length=C:=⟨_,rfl⟩
 rw[hH]at hht hif
 have HHT:=Lc hht
 have HHQ:=Lc hH
 have HK:=Lc hk
 have HZ:=Lc hz
 have HMAY:=Lc hm
 have HSEG:=Lc hse
 have HCI:=Lc hci
 have HIF:=Lc hif
 have HSG:=Lc hsg
 clear hR hW0 hb0 b0 bs0 hs ho hk hz hm hse hci hif hsg hht hH
 have r2:W0.cell? ⟨w.heap.size+1,2,none⟩=some (.slice s.kA s.ks.length s.kc):=HS0.out.cell 2
 go_enter func151,ntmps151
 go_upto_region 1 with fail
 rw[HW0.out]
 go_wp2_with fail
 clear r2
 go_loopw [6] (fun e wr=>∃h:Nat,h<=H+1/\e= .int .i64 h/\Hid (Below W0.heap.size W0 wr)/\Hid (∀j,j< h->rz c s j=true)) (fun e _=>H+1-(intOf e).toNat)
 case atStart=>exact⟨0,LC _,rfl,Lg _ _,fun j hj=>absurd hj (Nat.not_lt_zero j)⟩
 case round=>
  obtain⟨h,hh,rfl,hbr,hrow⟩:=hrel
  have hC:=HC0.out.below hbr.out HC0.out.lt
  have HHH:=Lc hh
  have HC1:=Lc hC
  obtain⟨i0,q0,q1,q2,q3,q4,q5,q6,q7,q8⟩:=iF hC
  clear hC hh
  go_wp2_with fail
  refine(HHT.out _).mono ?_
  rintro e w1 ⟨rfl,hb1⟩
  have HB1:=Lc (aa hbr.out hb1)
  have HC2:=Lc (HC1.out.below hb1 HC1.out.lt)
  clear hb1 q0 q1 q2 q3 q4 q5 q6 q7 q8 i0 HC1
  by_cases hlt:h< H+1
  ·have i1:(h:Int)<=(H:Int):=by omega
   have i1n:h<=H:=by omega
   obtain⟨G,hG⟩:∃G,c.seg.toNat=G:=⟨_,rfl⟩
   have hGi:c.seg=(G:Int):=by have:=HCI.out.g;omega
   obtain⟨Y,hY⟩:∃Y,G*2 ^ h=Y:=⟨_,rfl⟩
   obtain⟨K,hK⟩:∃K,s.ks.length/Y=K:=⟨_,rfl⟩
   have hnH:s.ks.length=G*2 ^ H:=by rw[<-hG];exact HIF.out.2.2.1
   have hY0:0< Y:=by rw[<-hY];exact Nat.mul_pos (by have:=HCI.out.g;omega) (M6 h)
   have hKY:K*Y=s.ks.length:=by
    have hd:Y ∣ s.ks.length:=by rw[hnH,<-hY];exact Nat.mul_dvd_mul_left _ (Nat.pow_dvd_pow 2 i1n)
    rw[<-hK];exact Nat.div_mul_cancel hd
   have hYn:Y<=300:=by
    have h1:Y<=G*2 ^ H:=by rw[<-hY];exact MW _ (LQ (n:=2) (by decide) i1n)
    have:=HOK.out.kl;omega
   have HWI:=Lc (fun W=>nK c G h Y W hGi (by have:=HIF.out.2.2.2.1;omega) hY (by omega))
   have HG:=Lc (Lr hG (Lr hGi (Lr hY (Lr hK (Lr hY0 (Lr hKY hYn))))))
   have HLT:=Lc hlt
   have hw2:=aT h (by have:=HIF.out.2.2.2.1;omega)
   have HW2:=Lc hw2
   clear hG hGi hY hK hnH hY0 hKY hYn hlt hw2
   obtain⟨i0,q0,q1,q2,q3,q4,q5,q6,q7,q8⟩:=iF HC2.out
   go_wp2_with fail
   refine(HWI.out _).mono ?_
   rintro e w4 ⟨rfl,hb4⟩
   have HB4:=Lc (aa HB1.out hb4)
   have HC4:=Lc (HC2.out.below hb4 HC2.out.lt)
   clear hb4 q0 q1 q2 q3 q4 q5 q6 q7 q8 i0 HC2
   go_wp2_with fail
   go_loopw [8] (fun e wr2=>∃i M:Nat,i<=K/\e= .int .i64 M/\Hid (M=i*Y)/\Hid (Below w4.heap.size w4 wr2)/\Hid (∀j,j< i->zJ c s h j=true)) (fun e _=>s.ks.length-(intOf e).toNat)
   case atStart=>exact⟨0,0,LC _,rfl,(Nat.zero_mul _).symm,Lg _ _,fun j hj=>absurd hj (Nat.not_lt_zero j)⟩
   case round=>
    obtain⟨i,M,hi,rfl,hMe,hbi,hwin⟩:=hrel
    by_cases hli:i< K
    ·obtain⟨hG,hGi,hY,hK,hY0,hKY,hYn⟩:=HG.out
     have hB5:=aa HB4.out hbi.out
     have hC5:=HC4.out.below hbi.out HC4.out.lt
     have hS5:=HS0.out.below hB5 HS0.out.lt
     obtain⟨T,hT⟩:∃T,i*Y+Y=T:=⟨_,rfl⟩
     have hM:=hMe.out
     have hMT:M+Y=T:=by rw[hM,hT]
     have hTn:T<=s.ks.length:=by
      rw[<-hT,<-hKY]
      have:=Mg Y (show i+1<=K by omega)
      rwa [M7,MO]at this
     have i2:(M:Int)< (s.ks.length:Int):=by omega
     have ham:=fun W (hW:Below w4.heap.size w4 W)=>pR s (i*2 ^ h) ((i+1)*2 ^ h) M T W (HSA.out.below (aa HB4.out hW)) HOK.out HMAY.out (Mg _ (Nat.le_succ _)) (by
       have hsg:=HSG.out
       rw[hG]at hsg
       have h1:((i+1)*2 ^ h)*G<=s.cs.length*G:=by
        rw[MB,Mk (2 ^ h) G,hY,M7,MO,hT,Mk s.cs.length,<-hsg.kl];exact hTn
       exact Nat.le_of_mul_le_mul_right h1 (by have:=hsg.g4;omega)) (by rw[HSEG.out,hG,MB,Mk (2 ^ h) G,hY,hM]) (by rw[HSEG.out,hG,MB,Mk (2 ^ h) G,hY,M7,MO,hT])
     rw[show T-M=Y by omega]at ham
     have hcl:=eT s.ws Y M
     have hfu:=fun W=>yc c s.ks.length h (aX s.ws M Y) W HK.out HOK.out.kl HZ.out (by rw[HHQ.out];have:=HLT.out;omega) (by rw[hG,hY];exact hcl)
     have hsp:=fun W=>Bd c s.ks.length h (aX s.ws M Y) W HK.out HOK.out.kl HZ.out (by rw[HHQ.out];have:=HLT.out;omega) (by rw[hG,hY];exact hcl)
     have hwb:zJ c s h i=(mD c s.ks.length h (aX s.ws M Y)&&gI c s.ks.length h (aX s.ws M Y)):=by unfold zJ;rw[hG,hY,hM]
     obtain⟨C,hC⟩:∃C,aX s.ws M Y=C:=⟨_,rfl⟩
     rw[hC]at ham hfu hsp hwb
     obtain⟨FB,hFB⟩:∃b,mD c s.ks.length h C=b:=⟨_,rfl⟩
     obtain⟨SB',hSB⟩:∃b,gI c s.ks.length h C=b:=⟨_,rfl⟩
     rw[hFB]at hfu hwb
     rw[hSB]at hsp hwb
     have HAM:=Lc ham
     have HFU:=Lc hfu
     have HSP:=Lc hsp
     have HWB:=Lc hwb
     have HBI:=Lc hbi.out
     have HB5:=Lc hB5
     have HLI:=Lc (show i< K/\T=(i+1)*Y/\s.ks.length-T< s.ks.length-M by exact⟨hli,by rw[M7,MO,hT],by omega⟩)
     have HC5:=Lc hC5
     have hw3:IntKind.i64.wrap ((M:Int)+(Y:Int))=(T:Int):=by rw[Lh _ (by have:=HOK.out.kl;omega)];omega
     clear ham hfu hsp hwb hC hFB hSB hcl hG hGi hY hK hY0 hKY hB5 hM hT hMT hTn hli hi hYn
     obtain⟨j0,r0,r1,r2,r3,r4,r5⟩:=E5 hS5
     clear hC5 hS5
     go_wp2_with fail
     refine(HAM.out _ HBI.out).mono ?_
     rintro e w5 ⟨rfl,hb6⟩
     have HB6:=Lc (aa HBI.out hb6)
     have HC6:=Lc (HC5.out.below hb6 HC5.out.lt)
     clear hb6 r0 r1 r2 r3 r4 r5 j0 HC5 HBI i2
     obtain⟨i0,q0,q1,q2,q3,q4,q5,q6,q7,q8⟩:=iF HC6.out
     have hbad:(FB&&SB')=false->R=false:=fun hf=>by
      rw[<-HR.out]
      have h1:rz c s h=false:=by
       unfold rz
       rw[HG.out.1,HG.out.2.2.1,HG.out.2.2.2.1]
       exact jy HLI.out.1 (HWB.out.trans hf)
      unfold gW
      rw[HHQ.out]
      exact jy HLT.out h1
     have HBAD:=Lc hbad
     clear hbad
     go_wp2_with fail
     refine(HFU.out _).mono ?_
     rintro e w6 ⟨rfl,hb7⟩
     have HB7:=Lc (aa HB6.out hb7)
     have HC7:=Lc (HC6.out.below hb7 HC6.out.lt)
     clear hb7 q0 q1 q2 q3 q4 q5 q6 q7 q8 i0 HC6 HB6
     obtain⟨i0,q0,q1,q2,q3,q4,q5,q6,q7,q8⟩:=iF HC7.out
     cases FB with
     |false=>
      obtain rfl:R=false:=HBAD.out (by first|rfl|trivial)
      go_wp2_with fail
      go_ret
      exact⟨rfl,aa HB0.out (aa HB4.out HB7.out)⟩
     |true=>
     go_wp2_with fail
     refine(HSP.out _).mono ?_
     rintro e w7 ⟨rfl,hb8⟩
     have HB8:=Lc (aa HB7.out hb8)
     clear hb8 q0 q1 q2 q3 q4 q5 q6 q7 q8 i0 HC7 HB7
     cases SB' with
     |false=>
      obtain rfl:R=false:=HBAD.out (by first|rfl|trivial)
      go_wp2_with fail
      go_ret
      exact⟨rfl,aa HB0.out (aa HB4.out HB8.out)⟩
     |true=>
     go_wp2_with fail
     go_roundw
     case rel=>exact⟨i+1,T,HLI.out.1,rfl,HLI.out.2.1,HB8.out,fun j hj=>by
      rcases Nat.lt_succ_iff_lt_or_eq.1 hj with h'|h'
      ·exact hwin.out j h'
      ·rw[h',HWB.out];rfl⟩
     case measure=>have:=HLI.out.2.2;simp[intOf];omega
    ·have hiK:i=K:=by omega
     have i2:¬(M:Int)< (s.ks.length:Int):=by have:=HG.out.2.2.2.2.2.1;have:=hMe.out;rw[hiK]at this;omega
     have HRW:=Lc (show rz c s h=true by
      unfold rz
      rw[HG.out.1,HG.out.2.2.1,HG.out.2.2.2.1]
      exact iY fun j hj=>hwin.out j (by omega))
     have HBI:=Lc hbi.out
     clear hli hiK hi
     go_wp2_with fail
     go_roundw
     case rel=>exact⟨h+1,HLT.out,by rw[HW2.out],aa HB4.out HBI.out,fun j hj=>by
      rcases Nat.lt_succ_iff_lt_or_eq.1 hj with h'|h'
      ·exact hrow.out j h'
      ·rw[h'];exact HRW.out⟩
     case measure=>exact bO _ h HLT.out HW2.out
  ·have i1:¬(h:Int)<=(H:Int):=by omega
   have i1n:¬h<=H:=by omega
   obtain rfl:R=true:=by rw[<-HR.out];unfold gW;rw[HHQ.out];exact iY fun j hj=>hrow.out j (by omega)
   clear hlt
   go_wp2_with fail
   go_ret
   exact⟨rfl,aa HB0.out HB1.out⟩
theorem D7 (c:Cfg) (s:Ss) (w:World) (hs:SsAt w s) (ho:SsOk s) (hk:mK c=true):
  Calls prog 130 #[.agg c.row,.agg s.row] w fun r w'=>r= .returned (.bool (uj c s))/\Below w.heap.size w w':=by
 obtain⟨W0,hW0,hb0,b0,bs0⟩:=CO w c s
 have HW0:=Lc hW0
 have HB0:=Lc hb0
 have HC0:=Lc b0
 have HS0:=Lc bs0
 have HSA:=Lc (hs.below hb0)
 have HOK:=Lc ho
 have hm4:=fun W (hW:Below W0.heap.size W0 W)=>uX s W ((hs.below hb0).below hW) ho
 have his:=fun W (_:Below W0.heap.size W0 W)=>GG c s.ks.length W hk ho.kl
 have hmn:=fun(hm:bB s=true) W (hW:Below W0.heap.size W0 W)=>Ap s W ((hs.below hb0).below hW) ho hm
 have hde:=fun(hm:bB s=true) (hse:s.seg=c.seg) (hz:uB c s.ks.length=true) W (hW:Below W0.heap.size W0 W)=>xc c s W ((hs.below hb0).below hW) ho hk hz hm hse
 have hmg:uj c s=(uB c s.ks.length&&bB s&&decide (s.seg=c.seg)&&decide (((aX s.ws 0 s.ks.length:Nat):Int)<=c.most)&&gW c s):=rfl
 obtain⟨M,hM⟩:∃M,bB s=M:=⟨_,rfl⟩
 obtain⟨Z,hZ⟩:∃M,uB c s.ks.length=M:=⟨_,rfl⟩
 obtain⟨D,hD⟩:∃M,gW c s=M:=⟨_,rfl⟩
 obtain⟨N0,hN0⟩:∃N,aX s.ws 0 s.ks.length=N:=⟨_,rfl⟩
 obtain⟨V,hV⟩:∃V,uj c s=V:=⟨_,rfl⟩
 rw[hM]at hm4 hmn hde hmg
 rw[hZ]at his hde hmg
 rw[hD]at hde hmg
 rw[hN0]at hmn hmg
 rw[hV]at hmg ⊢
 have HM4:=Lc hm4
 have HIS:=Lc his
 have HMN:=Lc hmn
 have HDE:=Lc hde
 have HMG:=Lc hmg
 have qc:=HC0.out.cell
 have qs:=HS0.out.cell
 have l0:=HC0.out.lt
 have l1:=HS0.out.lt
 clear hm4 his hmn hde hmg hM hZ hD hN0 hW0 hb0 b0 bs0 hs ho hk hV
 go_enter func130,ntmps130
 go_upto_region 1 with fail
 rw[HW0.out]
 go_cut [4]from 5 to 32 (fun v wx=>v= .bool V/\Below W0.heap.size W0 wx)
 case first=>
  cases M with
  |false=>
   obtain rfl:V=false:=by rw[HMG.out,Bool.and_false];rfl
   refine aD (by kernel_rfl) 29 [.v [] fun v=>v 0= .agg s.row,.v [0] fun v=>v 1= .bool false,.v [1] fun v=>v 2= .bool false,.v [2] fun v=>v 3=undef,.v [2] fun v=>v 4=undef,.v [2] fun v=>v 5=undef,.v [2] fun v=>v 6=undef,.v [2] fun v=>v 7=undef,.v [2,7] fun v=>v 8= .bool false,.v [8] fun v=>v 9= .bool false,.v [9] fun v=>v 10=undef,.v [9] fun v=>v 11=undef,.v [9] fun v=>v 12=undef,.v [9] fun v=>v 13=undef,.v [9] fun v=>v 14=undef,.v [9,14] fun v=>v 15= .bool false,.v [15] fun v=>v 16= .bool false,.v [16] fun v=>v 17=undef,.v [16] fun v=>v 18=undef,.v [16] fun v=>v 19=undef,.v [16] fun v=>v 20=undef,.v [16] fun v=>v 21=undef,.v [16,21] fun v=>v 22= .bool false,.v [22] fun v=>v 23= .bool false,.v [23] fun v=>v 24=undef,.v [23] fun v=>v 25=undef,.v [23] fun v=>v 26=undef,.v [23,26] fun v=>v 27= .bool false,.v [27] fun v=>v 28= .bool false] [28] rfl rfl (by kernel_rfl) (by kernel_rfl) ⟨_,fun v=>by simp only[nM,Act.put,LM,Mi,Mc];rfl,?_⟩
   simp only[iy,og,dD,dG,fQ,mO,tw_none,L8,ML,MS,Lm,Ll,TEnt.v,TEnt.w,RB,RM,M9,Nh,decide_true,decide_false,Mt,MH,Me,Mf,if_true,if_false,↓reduceIte,LW,List.length_cons,List.length_nil]
   refine⟨?_,?_,?_,?_,?_,?_,?_,?_,?_,?_,?_,?_,?_,?_,?_,?_,?_,?_,?_,?_,?_,?_,?_,?_,?_,?_,?_,?_,?_,fun v W hb=>?_⟩
   all_goals try intro v W K hb hK
   all_goals have hc:=(aL hb).1
   all_goals try ((first|(intro a b;rw[a,b]at hK ⊢)|(intro a;rw[a]at hK ⊢)|skip);go_wp2_with fail;exact hK _ _ (Lg _ _) rfl)
   ·intro h0
    rw[h0]at hK ⊢
    go_wp2_with (go_at_call 131;refine(HM4.out _ hb).mono ?_;rintro e1 W1 ⟨rfl,hb1⟩)
    exact hK _ _ hb1 rfl
   intro h28
   rw[h28]
   go_wp2_with fail
   go_meet
   exact⟨rfl,hb⟩
  |true=>
  have hmn:=HMN.out rfl
  have hde:=HDE.out rfl
  have HMN:=Lc hmn
  clear hmn
  by_cases hse:s.seg=c.seg
  case neg=>
   obtain rfl:V=false:=by rw[HMG.out,decide_eq_false hse,Bool.and_false];rfl
   have hx:(s.seg==c.seg)=false:=by simp[hse]
   clear hse hde
   refine aD (by kernel_rfl) 29 [.v [] fun v=>v 0= .agg s.row,.v [0] fun v=>v 1= .bool true,.v [1] fun v=>v 2= .bool true,.v [2] fun v=>v 3= .pointer (some ⟨w.heap.size+1,0,none⟩),.v [2,3] fun v=>v 4= .int .i64 s.seg,.v [2] fun v=>v 5= .pointer (some ⟨w.heap.size,2,none⟩),.v [2,5] fun v=>v 6= .int .i64 c.seg,.v [2,4,6] fun v=>v 7= .bool false,.v [2,7] fun v=>v 8= .bool false,.v [8] fun v=>v 9= .bool false,.v [9] fun v=>v 10=undef,.v [9] fun v=>v 11=undef,.v [9] fun v=>v 12=undef,.v [9] fun v=>v 13=undef,.v [9] fun v=>v 14=undef,.v [9,14] fun v=>v 15= .bool false,.v [15] fun v=>v 16= .bool false,.v [16] fun v=>v 17=undef,.v [16] fun v=>v 18=undef,.v [16] fun v=>v 19=undef,.v [16] fun v=>v 20=undef,.v [16] fun v=>v 21=undef,.v [16,21] fun v=>v 22= .bool false,.v [22] fun v=>v 23= .bool false,.v [23] fun v=>v 24=undef,.v [23] fun v=>v 25=undef,.v [23] fun v=>v 26=undef,.v [23,26] fun v=>v 27= .bool false,.v [27] fun v=>v 28= .bool false] [28] rfl rfl (by kernel_rfl) (by kernel_rfl) ⟨_,fun v=>by simp only[nM,Act.put,LM,Mi,Mc];rfl,?_⟩
   simp only[iy,og,dD,dG,fQ,mO,tw_none,L8,ML,MS,Lm,Ll,TEnt.v,TEnt.w,RB,RM,M9,Nh,decide_true,decide_false,Mt,MH,Me,Mf,if_true,if_false,↓reduceIte,LW,List.length_cons,List.length_nil]
   refine⟨?_,?_,?_,?_,?_,?_,?_,?_,?_,?_,?_,?_,?_,?_,?_,?_,?_,?_,?_,?_,?_,?_,?_,?_,?_,?_,?_,?_,?_,fun v W hb=>?_⟩
   all_goals try intro v W K hb hK
   all_goals have hc:=(aL hb).1
   all_goals try ((first|(intro a b c;rw[a,b,c]at hK ⊢)|(intro a b;rw[a,b]at hK ⊢)|(intro a;rw[a]at hK ⊢)|skip);go_wp2_with fail;exact hK _ _ (Lg _ _) rfl)
   ·intro h0
    rw[h0]at hK ⊢
    go_wp2_with (go_at_call 131;refine(HM4.out _ hb).mono ?_;rintro e1 W1 ⟨rfl,hb1⟩)
    exact hK _ _ hb1 rfl
   intro h28
   rw[h28]
   go_wp2_with fail
   go_meet
   exact⟨rfl,hb⟩
  case pos=>
  have hx:(s.seg==c.seg)=true:=by simp[hse]
  have hde:=hde hse
  cases Z with
  |false=>
   obtain rfl:V=false:=HMG.out
   clear hse hde
   refine aD (by kernel_rfl) 29 [.v [] fun v=>v 0= .agg s.row,.v [0] fun v=>v 1= .bool true,.v [1] fun v=>v 2= .bool true,.v [2] fun v=>v 3= .pointer (some ⟨w.heap.size+1,0,none⟩),.v [2,3] fun v=>v 4= .int .i64 s.seg,.v [2] fun v=>v 5= .pointer (some ⟨w.heap.size,2,none⟩),.v [2,5] fun v=>v 6= .int .i64 c.seg,.v [2,4,6] fun v=>v 7= .bool true,.v [2,7] fun v=>v 8= .bool true,.v [8] fun v=>v 9= .bool true,.v [9] fun v=>v 10= .agg c.row,.v [9] fun v=>v 11= .pointer (some ⟨w.heap.size+1,2,none⟩),.v [9,11] fun v=>v 12= .slice s.kA s.ks.length s.kc,.v [9,12] fun v=>v 13= .int .i64 (s.ks.length:Nat),.v [9,10,13] fun v=>v 14= .bool false,.v [9,14] fun v=>v 15= .bool false,.v [15] fun v=>v 16= .bool false,.v [16] fun v=>v 17=undef,.v [16] fun v=>v 18=undef,.v [16] fun v=>v 19=undef,.v [16] fun v=>v 20=undef,.v [16] fun v=>v 21=undef,.v [16,21] fun v=>v 22= .bool false,.v [22] fun v=>v 23= .bool false,.v [23] fun v=>v 24=undef,.v [23] fun v=>v 25=undef,.v [23] fun v=>v 26=undef,.v [23,26] fun v=>v 27= .bool false,.v [27] fun v=>v 28= .bool false] [28] rfl rfl (by kernel_rfl) (by kernel_rfl) ⟨_,fun v=>by simp only[nM,Act.put,LM,Mi,Mc];rfl,?_⟩
   simp only[iy,og,dD,dG,fQ,mO,tw_none,L8,ML,MS,Lm,Ll,TEnt.v,TEnt.w,RB,RM,M9,Nh,decide_true,decide_false,Mt,MH,Me,Mf,if_true,if_false,↓reduceIte,LW,List.length_cons,List.length_nil]
   refine⟨?_,?_,?_,?_,?_,?_,?_,?_,?_,?_,?_,?_,?_,?_,?_,?_,?_,?_,?_,?_,?_,?_,?_,?_,?_,?_,?_,?_,?_,fun v W hb=>?_⟩
   all_goals try intro v W K hb hK
   all_goals have hc:=(aL hb).1
   all_goals try ((first|(intro a b c;rw[a,b,c]at hK ⊢)|(intro a b;rw[a,b]at hK ⊢)|(intro a;rw[a]at hK ⊢)|skip);go_wp2_with fail;exact hK _ _ (Lg _ _) rfl)
   ·intro h0
    rw[h0]at hK ⊢
    go_wp2_with (go_at_call 131;refine(HM4.out _ hb).mono ?_;rintro e1 W1 ⟨rfl,hb1⟩)
    exact hK _ _ hb1 rfl
   ·intro h9 h10 h13
    rw[h9,h10,h13]at hK ⊢
    go_wp2_with (go_at_call 149;refine(HIS.out _ hb).mono ?_;rintro e1 W1 ⟨rfl,hb1⟩)
    exact hK _ _ hb1 rfl
   intro h28
   rw[h28]
   go_wp2_with fail
   go_meet
   exact⟨rfl,hb⟩
  |true=>
  have HDE:=Lc (hde rfl)
  clear hde
  by_cases hy:(N0:Int)<=c.most
  case neg=>
   obtain rfl:V=false:=by rw[HMG.out,decide_eq_false hy,Bool.and_false];rfl
   clear hse
   refine aD (by kernel_rfl) 29 [.v [] fun v=>v 0= .agg s.row,.v [0] fun v=>v 1= .bool true,.v [1] fun v=>v 2= .bool true,.v [2] fun v=>v 3= .pointer (some ⟨w.heap.size+1,0,none⟩),.v [2,3] fun v=>v 4= .int .i64 s.seg,.v [2] fun v=>v 5= .pointer (some ⟨w.heap.size,2,none⟩),.v [2,5] fun v=>v 6= .int .i64 c.seg,.v [2,4,6] fun v=>v 7= .bool true,.v [2,7] fun v=>v 8= .bool true,.v [8] fun v=>v 9= .bool true,.v [9] fun v=>v 10= .agg c.row,.v [9] fun v=>v 11= .pointer (some ⟨w.heap.size+1,2,none⟩),.v [9,11] fun v=>v 12= .slice s.kA s.ks.length s.kc,.v [9,12] fun v=>v 13= .int .i64 (s.ks.length:Nat),.v [9,10,13] fun v=>v 14= .bool true,.v [9,14] fun v=>v 15= .bool true,.v [15] fun v=>v 16= .bool true,.v [16] fun v=>v 17= .agg s.row,.v [16,17] fun v=>v 18= .int .i64 (N0:Nat),.v [16] fun v=>v 19= .pointer (some ⟨w.heap.size,1,none⟩),.v [16,19] fun v=>v 20= .int .i64 c.most,.v [16,18,20] fun v=>v 21= .bool false,.v [16,21] fun v=>v 22= .bool false,.v [22] fun v=>v 23= .bool false,.v [23] fun v=>v 24=undef,.v [23] fun v=>v 25=undef,.v [23] fun v=>v 26=undef,.v [23,26] fun v=>v 27= .bool false,.v [27] fun v=>v 28= .bool false] [28] rfl rfl (by kernel_rfl) (by kernel_rfl) ⟨_,fun v=>by simp only[nM,Act.put,LM,Mi,Mc];rfl,?_⟩
   simp only[iy,og,dD,dG,fQ,mO,tw_none,L8,ML,MS,Lm,Ll,TEnt.v,TEnt.w,RB,RM,M9,Nh,decide_true,decide_false,Mt,MH,Me,Mf,if_true,if_false,↓reduceIte,LW,List.length_cons,List.length_nil]
   refine⟨?_,?_,?_,?_,?_,?_,?_,?_,?_,?_,?_,?_,?_,?_,?_,?_,?_,?_,?_,?_,?_,?_,?_,?_,?_,?_,?_,?_,?_,fun v W hb=>?_⟩
   all_goals try intro v W K hb hK
   all_goals have hc:=(aL hb).1
   all_goals try ((first|(intro a b c;rw[a,b,c]at hK ⊢)|(intro a b;rw[a,b]at hK ⊢)|(intro a;rw[a]at hK ⊢)|skip);go_wp2_with fail;exact hK _ _ (Lg _ _) rfl)
   ·intro h0
    rw[h0]at hK ⊢
    go_wp2_with (go_at_call 131;refine(HM4.out _ hb).mono ?_;rintro e1 W1 ⟨rfl,hb1⟩)
    exact hK _ _ hb1 rfl
   ·intro h9 h10 h13
    rw[h9,h10,h13]at hK ⊢
    go_wp2_with (go_at_call 149;refine(HIS.out _ hb).mono ?_;rintro e1 W1 ⟨rfl,hb1⟩)
    exact hK _ _ hb1 rfl
   ·intro h16 h17
    rw[h16,h17]at hK ⊢
    go_wp2_with (go_at_call 150;refine(HMN.out _ hb).mono ?_;rintro e1 W1 ⟨rfl,hb1⟩)
    exact hK _ _ hb1 rfl
   intro h28
   rw[h28]
   go_wp2_with fail
   go_meet
   exact⟨rfl,hb⟩
  case pos=>
  obtain rfl:V=D:=by rw[HMG.out,decide_eq_true hy,decide_eq_true hse];rfl
  clear hse
  refine aD (by kernel_rfl) 29 [.v [] fun v=>v 0= .agg s.row,.v [0] fun v=>v 1= .bool true,.v [1] fun v=>v 2= .bool true,.v [2] fun v=>v 3= .pointer (some ⟨w.heap.size+1,0,none⟩),.v [2,3] fun v=>v 4= .int .i64 s.seg,.v [2] fun v=>v 5= .pointer (some ⟨w.heap.size,2,none⟩),.v [2,5] fun v=>v 6= .int .i64 c.seg,.v [2,4,6] fun v=>v 7= .bool true,.v [2,7] fun v=>v 8= .bool true,.v [8] fun v=>v 9= .bool true,.v [9] fun v=>v 10= .agg c.row,.v [9] fun v=>v 11= .pointer (some ⟨w.heap.size+1,2,none⟩),.v [9,11] fun v=>v 12= .slice s.kA s.ks.length s.kc,.v [9,12] fun v=>v 13= .int .i64 (s.ks.length:Nat),.v [9,10,13] fun v=>v 14= .bool true,.v [9,14] fun v=>v 15= .bool true,.v [15] fun v=>v 16= .bool true,.v [16] fun v=>v 17= .agg s.row,.v [16,17] fun v=>v 18= .int .i64 (N0:Nat),.v [16] fun v=>v 19= .pointer (some ⟨w.heap.size,1,none⟩),.v [16,19] fun v=>v 20= .int .i64 c.most,.v [16,18,20] fun v=>v 21= .bool true,.v [16,21] fun v=>v 22= .bool true,.v [22] fun v=>v 23= .bool true,.v [23] fun v=>v 24= .agg c.row,.v [23] fun v=>v 25= .agg s.row,.v [23,24,25] fun v=>v 26= .bool V,.v [23,26] fun v=>v 27= .bool V,.v [27] fun v=>v 28= .bool V] [28] rfl rfl (by kernel_rfl) (by kernel_rfl) ⟨_,fun v=>by simp only[nM,Act.put,LM,Mi,Mc];rfl,?_⟩
  simp only[iy,og,dD,dG,fQ,mO,tw_none,L8,ML,MS,Lm,Ll,TEnt.v,TEnt.w,RB,RM,M9,Nh,decide_true,decide_false,Mt,MH,Me,Mf,if_true,if_false,↓reduceIte,LW,List.length_cons,List.length_nil]
  refine⟨?_,?_,?_,?_,?_,?_,?_,?_,?_,?_,?_,?_,?_,?_,?_,?_,?_,?_,?_,?_,?_,?_,?_,?_,?_,?_,?_,?_,?_,fun v W hb=>?_⟩
  all_goals try intro v W K hb hK
  all_goals have hc:=(aL hb).1
  all_goals try ((first|(intro a b c;rw[a,b,c]at hK ⊢)|(intro a b;rw[a,b]at hK ⊢)|(intro a;rw[a]at hK ⊢)|skip);go_wp2_with fail;exact hK _ _ (Lg _ _) rfl)
  ·intro h0
   rw[h0]at hK ⊢
   go_wp2_with (go_at_call 131;refine(HM4.out _ hb).mono ?_;rintro e1 W1 ⟨rfl,hb1⟩)
   exact hK _ _ hb1 rfl
  ·intro h9 h10 h13
   rw[h9,h10,h13]at hK ⊢
   go_wp2_with (go_at_call 149;refine(HIS.out _ hb).mono ?_;rintro e1 W1 ⟨rfl,hb1⟩)
   exact hK _ _ hb1 rfl
  ·intro h16 h17
   rw[h16,h17]at hK ⊢
   go_wp2_with (go_at_call 150;refine(HMN.out _ hb).mono ?_;rintro e1 W1 ⟨rfl,hb1⟩)
   exact hK _ _ hb1 rfl
  ·intro h23 h24 h25
   rw[h23,h24,h25]at hK ⊢
   go_wp2_with (go_at_call 151;refine(HDE.out _ hb).mono ?_;rintro e1 W1 ⟨rfl,hb1⟩)
   exact hK _ _ hb1 rfl
  intro h28
  rw[h28]
  go_wp2_with fail
  go_meet
  exact⟨rfl,hb⟩
 case rest=>
 obtain⟨rfl,hb9⟩:=hcut
 have HB9:=Lc (aa HB0.out hb9)
 clear hb9 qc qs l0 l1
 go_wp2_with fail
 go_ret
 exact⟨rfl,HB9.out⟩
theorem yA (c:Cfg) (s:Ss) (w:World) (hs:SsAt w s) (ho:SsOk s):
  Calls prog 112 #[.agg c.row,.agg s.row] w fun r w'=>r= .returned (.int .i64 (qB c s))/\Below w.heap.size w w':=by
 obtain⟨R,hR⟩:∃R,qB c s=R:=⟨_,rfl⟩
 rw[hR]
 unfold qB at hR
 have h5:=fun W=>uC c W
 have h9:=fun(hk:mK c=true) W (h:SsAt W s)=>D7 c s W h ho hk
 obtain⟨E,hE⟩:∃E,mK c=E:=⟨_,rfl⟩
 obtain⟨M,hM⟩:∃E,uj c s=E:=⟨_,rfl⟩
 rw[hE]at h5 h9 hR
 rw[hM]at h9 hR
 have H5:=Lc h5
 have H9:=Lc h9
 have HR:=Lc hR
 obtain⟨W0,hW0,hb0,b0,bs0⟩:=CO w c s
 have HW0:=Lc hW0
 have HB0:=Lc hb0
 have HC0:=Lc b0
 have HS0:=Lc bs0
 have HSA:=Lc (hs.below hb0)
 have HOK:=Lc ho
 clear hE hM hR h5 h9 hW0 hb0 b0 bs0 hs ho
 obtain⟨i0,q0,q1,q2,q3,q4,q5,q6,q7,q8⟩:=iF HC0.out
 go_enter func112,ntmps112
 go_upto_region 1 with fail
 rw[HW0.out]
 go_wp2_with fail
 refine(H5.out _).mono ?_
 rintro e w1 ⟨rfl,hb1⟩
 have HB1:=Lc (aa HB0.out hb1)
 have HC1:=Lc (HC0.out.below hb1 HC0.out.lt)
 have HS1:=Lc (HS0.out.below hb1 HS0.out.lt)
 have HSB:=Lc (HSA.out.below hb1)
 clear hb1 q0 q1 q2 q3 q4 q5 q6 q7 q8 i0
 cases E with
 |false=>
  obtain rfl:R=50:=HR.out.symm
  go_wp2_with fail
  go_ret
  exact⟨rfl,HB1.out⟩
 |true=>
 obtain⟨i0,q0,q1,q2,q3,q4,q5,q6,q7,q8⟩:=iF HC1.out
 obtain⟨j0,r0,r1,r2,r3,r4,r5⟩:=E5 HS1.out
 go_wp2_with fail
 refine(H9.out (by first|rfl|trivial) _ HSB.out).mono ?_
 rintro e w2 ⟨rfl,hb2⟩
 have HB2:=Lc (aa HB1.out hb2)
 clear hb2 q0 q1 q2 q3 q4 q5 q6 q7 q8 i0 r0 r1 r2 r3 r4 r5 j0
 cases M with
 |false=>
  obtain rfl:R=8:=HR.out.symm
  go_wp2_with fail
  go_ret
  exact⟨rfl,HB2.out⟩
 |true=>
  obtain rfl:R=0:=HR.out.symm
  go_wp2_with fail
  go_ret
  exact⟨rfl,HB2.out⟩
section
open Go.Shelf
theorem JN (y:Nat) (hy:y< 18446744073709551616):decide (0< bits BinOp.and IntKind.u64 (y:Int) 1)=decide (y %2=1):=by
 rw[wh y hy]
 by_cases h:y %2=1
 ·rw[decide_eq_true h,decide_eq_true (by omega)]
 ·rw[decide_eq_false h,decide_eq_false (by omega)]
theorem IK (A:Option Addr) (ws:List Nat) (c g k:Nat) (w:World) (h:w.cell? ⟨g,1,none⟩=some (.slice A ws.length c)) (hA:Sl w A (ws.map uw)) (hw:∀x∈ws,x< 18446744073709551616) (hl:ws.length<=300) (hk:k< 64*ws.length):
  Calls prog 219 #[.pointer (some ⟨g,0,none⟩),.int .i64 (k:Nat)] w fun r w'=>r= .returned (.bool (decide (fu ws k=1)))/\w'=w:=by
 have hlt3:k/64< ws.length:=by omega
 obtain⟨b1,o1,e1,hbl1,d1⟩:=hA.one (k/64) hlt3
 obtain⟨x,hx⟩:∃x,ws[k/64]'hlt3=x:=⟨_,rfl⟩
 obtain⟨K,hK⟩:∃K,k/64=K:=⟨_,rfl⟩
 obtain⟨m,hm⟩:∃m,k %64=m:=⟨_,rfl⟩
 have hbw:fu ws k=x/2 ^ (k %64) %2:=by unfold fu;rw[vC hlt3,hx]
 have hx64:x< 18446744073709551616:=by rw[<-hx];exact hw _ (List.getElem_mem hlt3)
 rw[hm]at hbw
 obtain⟨Y,hY⟩:∃Y,x/2 ^ m=Y:=⟨_,rfl⟩
 have hY64:Y< 18446744073709551616:=by rw[<-hY];exact Nat.lt_of_le_of_lt (Nu _ _) hx64
 rw[hY]at hbw
 rw[hbw]
 have i1:(k:Int) %64=(m:Int):=CY k m 64 hm
 rw[hx]at d1
 simp only[hK]at d1 hlt3
 rw[e1]at h
 have f1:w.cell? ⟨b1,o1+K,none⟩=some (.int .u64 (x:Nat)):=d1
 have i2:(0:Int)<=(K:Int):=by omega
 have i3:(K:Int)< (ws.length:Int):=by omega
 have i4:(0:Int)<=(k:Int):=by omega
 have hw0:wrap64 ((k:Int)/64)=(K:Int):=tO k K hK (by omega)
 have hq:=JN Y hY64
 have HYY:=Lc hY
 have HM64:=Lc (show m< 64 by rw[<-hm];exact Nat.mod_lt _ (by decide))
 clear hY hx64 hY64 hK hx hm hbw d1 e1 hk hlt3 hA hw hl
 go_enter func219,ntmps219
 repeat (first|(refine iL rfl (.tmp 13) (.tmp 15) _ rfl x m Y HM64.out rfl (by first|rfl|(show Value.int _ _=_;rw[i1])) HYY.out ?_)|go_values|go_skip|go_guarded|go_step|go_upon)
 go_ret
 exact⟨rfl,rfl⟩
structure PrAt (w:World) (B1 B2 B3:Nat) (s:Ss) (f t:Nat):Prop where
 c1:Blk w B1 3 #[.int .i64 (f:Nat)]
 c2:Blk w B2 3 #[.int .i64 (t:Nat)]
 c3:Blk w B3 29 s.row
 sw:Sl w s.wA (s.ws.map uw)
 sk:Sl w s.kA (s.ks.map iv)
 sv:Sl w s.vA (s.vs.map iv)
def KC (A:Option Addr) (n:Nat) (b:Nat):Prop:=n≠0/\∃a,A=some a/\b=a.block
theorem Sl.ofK {α:Type} {w W:World} {A:Option Addr} {l:List α} {f:α->Value} (h:Sl w A (l.map f)) (hs:w.heap.size<=W.heap.size) (hk:∀b,KC A l.length b->W.heap[b]?=w.heap[b]?):Sl W A (l.map f):=by
 by_cases h0l:l.length=0
 ·left;rw[List.eq_nil_of_length_eq_zero h0l];rfl
 rcases h with h1|⟨b,off,hA1,hlt,hc⟩
 ·exact .inl h1
 ·exact .inr ⟨b,off,hA1,Nat.lt_of_lt_of_le hlt hs,fun j u hu=>(World.cell?_of_block (a:=⟨b,off+j,none⟩) (hk b ⟨h0l,_,hA1,rfl⟩)).trans (hc j u hu)⟩
theorem Be {α:Type} {w:World} {A:Option Addr} {l:List α} {f:α->Value} (h:Sl w A (l.map f)) {b:Nat} (hb:KC A l.length b):b< w.heap.size:=by
 obtain⟨h0,a,ha,rfl⟩:=hb
 rcases h with h1|⟨b,off,hA1,hlt,hc⟩
 ·exact absurd (by simpa using h1) (fun h=>h0 (by rw[h];rfl))
 ·rw[ha]at hA1;obtain rfl:=Le hA1;exact hlt
def Jb (B1 B2 B3:Nat) (s:Ss) (b:Nat):Prop:=b=B1∨b=B2∨b=B3∨KC s.wA s.ws.length b∨KC s.kA s.ks.length b∨KC s.vA s.vs.length b
theorem PrAt.of {w W:World} {B1 B2 B3:Nat} {s:Ss} {f t:Nat} (h:PrAt w B1 B2 B3 s f t) (hs:w.heap.size<=W.heap.size) (hk:∀b,Jb B1 B2 B3 s b->W.heap[b]?=w.heap[b]?):PrAt W B1 B2 B3 s f t:=
 ⟨(hk B1 (.inl rfl)).trans h.c1,(hk B2 (.inr (.inl rfl))).trans h.c2,(hk B3 (.inr (.inr (.inl rfl)))).trans h.c3,
 h.sw.ofK hs fun b hb=>hk b (.inr (.inr (.inr (.inl hb)))),h.sk.ofK hs fun b hb=>hk b (.inr (.inr (.inr (.inr (.inl hb))))),h.sv.ofK hs fun b hb=>hk b (.inr (.inr (.inr (.inr (.inr hb)))))⟩
theorem PrAt.lt {w:World} {B1 B2 B3:Nat} {s:Ss} {f t:Nat} (h:PrAt w B1 B2 B3 s f t) {b:Nat} (hb:Jb B1 B2 B3 s b):b< w.heap.size:=by
 rcases hb with rfl|rfl|rfl|hb|hb|hb
 ·exact h.c1.lt
 ·exact h.c2.lt
 ·exact h.c3.lt
 ·exact Be h.sw hb
 ·exact Be h.sk hb
 ·exact Be h.sv hb
def KQ (s:Ss) (f n k:Nat):Array Value:=#[.agg #[.int .i64 ((mh s f n).getD k ⟨0,0⟩).key,.int .i64 ((mh s f n).getD k ⟨0,0⟩).val]]
end
end Go.Proofs.YtpbmbjjfdpkhbaaGreat
