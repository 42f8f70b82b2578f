/- part of the proof -/
import Derived.Test.YtpbmbjjfdpkhbaaGreatZq11
import Derived.Test.YtpbmbjjfdpkhbaaGreatZq2
import Derived.Deep.MidRow
namespace Go.Proofs.YtpbmbjjfdpkhbaaGreat
open Go Go.RowKit
set_option linter.all false
set_option maxRecDepth 100000
set_option maxHeartbeats 32000000
open Go.Proofs.Tryz
open And renaming intro->Lr
open Bool renaming and_eq_true->LZ,false_ne_true->Ld
open Go renaming all_oneCell_toArray->LH,bodyPost_ret->Li,wpOp_step->Lj
open Go.IntWalk renaming i64_in->Lh
open Go.Lib renaming hid->Lc
open Go.World renaming size_alloc->Ls
open List renaming all_eq_true->MV,ext_getElem?->NC,getElem?_eq_none->MG,range->L8
open Nat renaming le_refl->Lf,le_succ->MK,le_trans->Lt,log2->Md,mul_assoc->MB,mul_comm->Mk,mul_le_mul->M0,mul_le_mul_right->Mg,pow_le_pow_right->LQ,pow_succ->M8,two_pow_pos->M6
open Option.some renaming inj->Le
def BL (t:Nat->Td) (pl:Nat->Nat) (n:Nat):List Value:=[.int .i64 (t n).max,.int .i64 (((t n).many:Nat):Int),.int .i64 ((pl n:Nat):Int)]
def wV (N:Nat) (t:Nat->Td) (pl:Nat->Nat):List Value:=(L8 (N+1)).flatMap (BL t pl)
theorem jm (N:Nat) (t:Nat->Td) (pl:Nat->Nat):(wV N t pl).length=(N+1)*3:=by
 have:=aN (BL t pl) 3 (fun _=>rfl) (L8 (N+1))
 rw[List.length_range]at this
 exact this
theorem lL (N:Nat) (t:Nat->Td) (pl:Nat->Nat) (n j:Nat) (hn:n<=N) (hj:j< 3):(wV N t pl)[n*3+j]?=(BL t pl n)[j]?:=by
 have h:=flat_get (BL t pl) 3 (fun _=>rfl) (L8 (N+1)) n j (by rw[List.length_range];omega) hj
 rw[List.getElem_range]at h
 exact h
theorem BZ {N:Nat} {l:List Value} {t:Nat->Td} {pl:Nat->Nat} (hl:l.length=(N+1)*3) (h:∀n j,n<=N->j< 3->l[n*3+j]?=(BL t pl n)[j]?):l=wV N t pl:=by
 apply NC
 intro i
 by_cases hi:i< (N+1)*3
 ·have e:i=i/3*3+i %3:=by omega
  rw[e,h _ _ (by omega) (by omega),lL _ _ _ _ _ (by omega) (by omega)]
 ·rw[MG (by omega),MG (by rw[jm];omega)]
def FP (pl:Nat->Nat) (n p:Nat) (m:Nat):Nat:=if m=n then p else pl m
def Ig (t:Nat->Td) (n:Nat) (v:Td) (m:Nat):Td:=if m=n then v else t m
theorem Ff (N:Nat) (t:Nat->Td) (pl:Nat->Nat) (n p:Nat):(wV N t pl).set (n*3+2) (.int .i64 (p:Nat))=wV N t (FP pl n p):=by
 refine BZ (by rw[List.length_set,jm]) fun m j hm hj=>?_
 rw[List.getElem?_set,jm,lL _ _ _ _ _ hm hj]
 by_cases h:n*3+2=m*3+j
 ·obtain⟨rfl,rfl⟩:n=m/\j=2:=by omega
  rw[if_pos rfl,if_pos (by omega)]
  simp[BL,FP]
 ·rw[if_neg h]
  unfold BL FP
  by_cases hmn:m=n
  ·subst hmn
   have hj2:j=0∨j=1:=by omega
   rcases hj2 with rfl|rfl <;> rfl
  ·rw[if_neg hmn]
theorem He (N:Nat) (t:Nat->Td) (pl:Nat->Nat) (n:Nat) (v:Td):((wV N t pl).set (n*3) (.int .i64 v.max)).set (n*3+1) (.int .i64 ((v.many:Nat):Int))=wV N (Ig t n v) pl:=by
 refine BZ (by rw[List.length_set,List.length_set,jm]) fun m j hm hj=>?_
 rw[List.getElem?_set,List.getElem?_set,List.length_set,jm,lL _ _ _ _ _ hm hj]
 unfold BL Ig
 by_cases hmn:m=n
 ·subst hmn
  rw[if_pos rfl]
  match j,hj with
  |0,_=>rw[if_neg (by omega),if_pos (by omega),if_pos (by omega)];rfl
  |1,_=>rw[if_pos (by omega),if_pos (by omega)];rfl
  |2,_=>rw[if_neg (by omega),if_neg (by omega)];rfl
 ·rw[if_neg hmn,if_neg (by omega),if_neg (by omega)]
def bU (lv k m:Nat):Nat:=if 1<=m/\m<=k then(gU lv).getD (m-1) 0 else 0
theorem xI (lv k:Nat):FP (bU lv k) (k+1) ((gU lv).getD k 0)=bU lv (k+1):=by
 funext m
 unfold FP bU
 by_cases h:m=k+1
 ·subst h;rw[if_pos rfl,if_pos (by omega)];rfl
 ·rw[if_neg h]
  by_cases h2:1<=m/\m<=k
  ·rw[if_pos h2,if_pos (by omega)]
  ·rw[if_neg h2,if_neg (by omega)]
def noT (_:Nat):Td:=⟨0,0⟩
theorem EA:(prog.info? 284).map (fun i=>(i.zero,i.size,i.bytes))=some (some (.agg #[.int .i64 0,.int .i64 0,.int .i64 0]),3,24):=by kernel_rfl
theorem CU (lv N:Nat):madeCells #[Value.int .i64 0,.int .i64 0,.int .i64 0] ((N+1)*3)=(wV N noT (bU lv 0)).toArray:=by
 apply Array.ext
 ·simp[madeCells,jm]
 ·intro i h1 h2
  have h3:i< (N+1)*3:=by simpa[madeCells]using h1
  have e:i=i/3*3+i %3:=by omega
  have hg:=lL N noT (bU lv 0) (i/3) (i %3) (by omega) (by omega)
  rw[<-e]at hg
  have h4:(wV N noT (bU lv 0)).toArray[i]?=some ((wV N noT (bU lv 0)).toArray[i]):=Array.getElem?_eq_getElem h2
  rw[List.getElem?_toArray,hg]at h4
  have h5:bU lv 0 (i/3)=0:=by unfold bU;rw[if_neg (by omega)]
  have hr:i %3=0∨i %3=1∨i %3=2:=by omega
  simp only[madeCells,Array.getElem_map,Array.getElem_range]
  rcases hr with hr|hr|hr <;> rw[hr]at h4 <;> simp[BL,noT,h5]at h4 <;> simp only[List.getElem_toArray] <;> rw[<-h4] <;> simp[hr]
theorem jv {P:Prop} (h:P:=by
  iterate 9 apply Exists.intro
  refine⟨rfl,?_,?_,?_,?_,?_,?_,?_,?_,?_,?_,?_,?_,?_,?_,?_,?_,?_,?_⟩
  ·first|exact F0.out|exact fun _=>rfl
  ·first|exact F1.out|exact fun _=>rfl
  ·first|exact F2.out|exact fun _=>rfl
  ·first|exact F3.out|exact fun _=>rfl
  ·first|exact F4.out|exact fun _=>rfl
  ·first|exact F5.out|exact fun _=>rfl
  ·first|exact F6.out|exact fun _=>rfl
  ·first|exact F7.out|exact fun _=>rfl
  ·first|exact F8.out|exact fun _=>rfl
  ·exact fun _=>trivial
  ·first|(intro h;have hh:=C4.out (by simpa using h);simp[hh];done)|(intro _;simp[hl3];done)
  ·first|(intro h;have hh:=C5.out (by simpa using h);simp[hh];done)|(intro _;simp[hl2,hl4];done)
  ·first|(intro h;have hh:=C6.out (by simpa using h);simp[hh];done)|(intro _;simp[hl5];done)
  ·first|(intro h;have hh:=C7.out (by simpa using h);simp[hh];done)|(intro _;simp[hl0,hl1];done)
  ·first|(intro h;have hh:=C8.out (by simpa using h);simp[hh];done)|(intro _;simp[hl7];done)
  ·first|(intro h;have hh:=C9.out (by simpa using h);simp[hh];done)|(intro _;simp[hl8,hl6];done)
  ·first|exact S8.out|exact fun _=>rfl|(intro h;refine absurd h ?_;simp;done;done)
  ·first|exact S9.out|exact fun _=>rfl):P:=h
theorem Il (n1 k N M c p B1 B2 gn bA oA:Nat) (w:World) (cs:Array Value) (hn:k+1=n1) (hk:k< N) (hM:N+1=M) (hN:N<=1000)
  (h1:w.cell? ⟨B1,0,none⟩=some (.slice (some ⟨bA,oA,none⟩) N c)) (h2:w.cell? ⟨B2,0,none⟩=some (.slice (some ⟨gn,0,none⟩) M M)) (h3:w.cell? ⟨bA,oA+k,none⟩=some (.int .i64 (p:Nat))) (hb:Blk w gn 284 cs) (hcs:cs.size=M*3):
  Calls prog 245 #[.int .i64 (n1:Nat),.pointer (some ⟨B1,0,none⟩),.pointer (some ⟨B2,0,none⟩)] w fun r w'=>(∃v,r= .returned v)/\w'=w.drew.setCell ⟨gn,n1*3+2,none⟩ (.int .i64 (p:Nat)):=by
 have hw:IntKind.i64.wrap ((n1:Int)-1)=(k:Int):=by rw[Lh _ (by omega)];omega
 have i1:(0:Int)<=(k:Int):=by omega
 have i2:(k:Int)< (N:Int):=by omega
 have i3:(0:Int)<=(n1:Int):=by omega
 have i4:(n1:Int)< (M:Int):=by omega
 obtain⟨vx,hvx⟩:∃v,w.cell? ⟨gn,n1*3+2,none⟩=some v:=⟨_,(hb.cell _).trans (Array.getElem?_eq_getElem (show n1*3+2< cs.size by omega))⟩
 have hfx:w.frozen? ⟨gn,n1*3+2,none⟩=false:=hb.frozen _
 clear hn hk hM hN hb hcs
 go_enter func245,ntmps245
 go_upto_region 0 with fail
 refine aM (by kernel_rfl) (by kernel_rfl) (fun L a W=>∃(t4 t5 t6 t7 t8 t9 t10 t11 t12:Value),a=⟨#[.int .i64 (n1:Nat),.pointer (some ⟨B1,0,none⟩),.pointer (some ⟨B2,0,none⟩),undef,t4,t5,t6,t7,t8,t9,t10,t11,t12],[]⟩/\(L 0=true->t4= .slice (some ⟨gn,0,none⟩) M M)/\(L 1=true->t5= .int .i64 (n1:Nat))/\(L 2=true->t6= .slice (some ⟨bA,oA,none⟩) N c)/\(L 3=true->t7= .int .i64 (n1:Nat))/\(L 4=true->t8= .int .i64 (k:Nat))/\(L 5=true->t9= .pointer (some ⟨bA,oA+k,none⟩))/\(L 6=true->t10= .int .i64 (p:Nat))/\(L 7=true->t11= .pointer (some ⟨gn,n1*3,none⟩))/\(L 8=true->t12= .pointer (some ⟨gn,n1*3+2,none⟩))/\(L 9=true->True)/\(L 4=true->L 3=true)/\(L 5=true->L 2=true/\L 4=true)/\(L 6=true->L 5=true)/\(L 7=true->L 0=true/\L 1=true)/\(L 8=true->L 7=true)/\(L 9=true->L 8=true/\L 6=true)/\(L 9=false->W=w.drew)/\(L 9=true->W=w.drew.setCell ⟨gn,n1*3+2,none⟩ (.int .i64 (p:Nat)))) ?h0 ?hstep ?hend
 case h0=>exact⟨undef,undef,undef,undef,undef,undef,undef,undef,undef,rfl,fun h=>absurd h Ld,fun h=>absurd h Ld,fun h=>absurd h Ld,fun h=>absurd h Ld,fun h=>absurd h Ld,fun h=>absurd h Ld,fun h=>absurd h Ld,fun h=>absurd h Ld,fun h=>absurd h Ld,fun h=>absurd h Ld,fun h=>absurd h Ld,fun h=>absurd h Ld,fun h=>absurd h Ld,fun h=>absurd h Ld,fun h=>absurd h Ld,fun h=>absurd h Ld,fun _=>rfl,fun h=>absurd h Ld⟩
 case hend=>
  rintro L a W hall ⟨t4,t5,t6,t7,t8,t9,t10,t11,t12,rfl,f0,f1,f2,f3,f4,f5,f6,f7,f8,f9,c4,c5,c6,c7,c8,c9,s8,s9⟩
  obtain rfl:=f0 (hall 0 (by decide))
  obtain rfl:=f1 (hall 1 (by decide))
  obtain rfl:=f2 (hall 2 (by decide))
  obtain rfl:=f3 (hall 3 (by decide))
  obtain rfl:=f4 (hall 4 (by decide))
  obtain rfl:=f5 (hall 5 (by decide))
  obtain rfl:=f6 (hall 6 (by decide))
  obtain rfl:=f7 (hall 7 (by decide))
  obtain rfl:=f8 (hall 8 (by decide))
  have hst:=s9 (hall 9 (by decide))
  clear hall f0 f1 f2 f3 f4 f5 f6 f7 f8 f9 c4 c5 c6 c7 c8 c9 s8 s9
  subst hst
  clear hvx hfx
  go_wp2_with fail
  first|refine Li (results_none rfl _ _ _) rfl ?_|refine bodyPost_end (results_none rfl _ _ _) rfl ?_
  exact⟨⟨_,rfl⟩,rfl⟩
 case hstep=>
  rintro L a W i o ho hLi hdep ⟨t4,t5,t6,t7,t8,t9,t10,t11,t12,rfl,f0,f1,f2,f3,f4,f5,f6,f7,f8,f9,c4,c5,c6,c7,c8,c9,s8,s9⟩
  have F0:=Lc f0
  have F1:=Lc f1
  have F2:=Lc f2
  have F3:=Lc f3
  have F4:=Lc f4
  have F5:=Lc f5
  have F6:=Lc f6
  have F7:=Lc f7
  have F8:=Lc f8
  have F9:=Lc f9
  have C4:=Lc c4
  have C5:=Lc c5
  have C6:=Lc c6
  have C7:=Lc c7
  have C8:=Lc c8
  have C9:=Lc c9
  have S8:=Lc s8
  have S9:=Lc s9
  clear f0 f1 f2 f3 f4 f5 f6 f7 f8 f9 c4 c5 c6 c7 c8 c9 s8 s9
  have HLi:=Lc hLi
  clear hLi
  match i,ho with
  |0,ho=>
   obtain rfl:=Le ho
   clear hdep
   have hm0:L 9=false:=by
    cases h:L 9 with
    |false=>rfl
    |true=>exact absurd ((C7.out (C8.out (C9.out h).1)).1) (by rw[HLi.out];exact Ld)
   have hW:=S8.out hm0
   subst hW
   refine Lj rfl (fun K1 hK1=>?_)
   have hK:=Lc hK1
   clear hK1
   go_wp2_with fail
   refine hK.out _ _ ?_;exact jv
  |1,ho=>
   obtain rfl:=Le ho
   clear hdep
   refine Lj rfl (fun K1 hK1=>?_)
   have hK:=Lc hK1
   clear hK1
   go_wp2_with fail
   refine hK.out _ _ ?_;exact jv
  |2,ho=>
   obtain rfl:=Le ho
   clear hdep
   have hm0:L 9=false:=by
    cases h:L 9 with
    |false=>rfl
    |true=>exact absurd ((C5.out (C6.out (C9.out h).2)).1) (by rw[HLi.out];exact Ld)
   have hW:=S8.out hm0
   subst hW
   refine Lj rfl (fun K1 hK1=>?_)
   have hK:=Lc hK1
   clear hK1
   go_wp2_with fail
   refine hK.out _ _ ?_;exact jv
  |3,ho=>
   obtain rfl:=Le ho
   clear hdep
   refine Lj rfl (fun K1 hK1=>?_)
   have hK:=Lc hK1
   clear hK1
   go_wp2_with fail
   refine hK.out _ _ ?_;exact jv
  |4,ho=>
   obtain rfl:=Le ho
   have hl3:=hdep ⟨3,.data⟩ (by simp) rfl
   obtain rfl:=F3.out hl3
   clear hdep
   refine Lj rfl (fun K1 hK1=>?_)
   have hK:=Lc hK1
   clear hK1
   go_wp2_with fail
   refine hK.out _ _ ?_;exact jv
  |5,ho=>
   obtain rfl:=Le ho
   have hl2:=hdep ⟨2,.data⟩ (by simp) rfl
   obtain rfl:=F2.out hl2
   have hl4:=hdep ⟨4,.data⟩ (by simp) rfl
   obtain rfl:=F4.out hl4
   clear hdep
   refine Lj rfl (fun K1 hK1=>?_)
   have hK:=Lc hK1
   clear hK1
   go_wp2_with fail
   refine hK.out _ _ ?_;exact jv
  |6,ho=>
   obtain rfl:=Le ho
   have hl5:=hdep ⟨5,.data⟩ (by simp) rfl
   obtain rfl:=F5.out hl5
   clear hdep
   have hm0:L 9=false:=by
    cases h:L 9 with
    |false=>rfl
    |true=>exact absurd ((C9.out h).2) (by rw[HLi.out];exact Ld)
   have hW:=S8.out hm0
   subst hW
   refine Lj rfl (fun K1 hK1=>?_)
   have hK:=Lc hK1
   clear hK1
   go_wp2_with fail
   refine hK.out _ _ ?_;exact jv
  |7,ho=>
   obtain rfl:=Le ho
   have hl0:=hdep ⟨0,.data⟩ (by simp) rfl
   obtain rfl:=F0.out hl0
   have hl1:=hdep ⟨1,.data⟩ (by simp) rfl
   obtain rfl:=F1.out hl1
   clear hdep
   refine Lj rfl (fun K1 hK1=>?_)
   have hK:=Lc hK1
   clear hK1
   go_wp2_with fail
   refine hK.out _ _ ?_;exact jv
  |8,ho=>
   obtain rfl:=Le ho
   have hl7:=hdep ⟨7,.data⟩ (by simp) rfl
   obtain rfl:=F7.out hl7
   clear hdep
   refine Lj rfl (fun K1 hK1=>?_)
   have hK:=Lc hK1
   clear hK1
   go_wp2_with fail
   refine hK.out _ _ ?_;exact jv
  |9,ho=>
   obtain rfl:=Le ho
   have hl8:=hdep ⟨8,.data⟩ (by simp) rfl
   obtain rfl:=F8.out hl8
   have hl6:=hdep ⟨6,.data⟩ (by simp) rfl
   obtain rfl:=F6.out hl6
   clear hdep
   have hst:=S8.out HLi.out
   refine Lj rfl (fun K1 hK1=>?_)
   have hK:=Lc hK1
   clear hK1
   subst hst
   go_wp2_with fail
   refine hK.out _ _ ?_;exact jv
theorem Eo (lv N M:Nat) (w:World) (h1:1<=lv) (h7:lv<=7) (hN:2 ^ lv-1=N) (hM:N+1=M):Calls prog 241 #[.int .i64 (lv:Nat)] w fun r w'=>∃gn,r= .returned (.slice (some ⟨gn,0,none⟩) M M)/\Blk w' gn 284 (wV N noT (bU lv N)).toArray/\w.heap.size<=gn/\Below w.heap.size w w':=by
 have HTB:=Lc (fun W=>Dn lv N W h1 h7 hN)
 have hp7:=dO h7
 have hp1:2 ^ 1<=2 ^ lv:=LQ (n:=2) (by decide) h1
 have hpl:(gU lv).length=N:=by unfold gU;rw[kI,hN]
 obtain⟨i0,hi,hz0,hz1,hz2⟩:=info_parts EA
 have hmk:=fun W=>aU (P:=prog) 278 284 i0 _ underlying278 hi hz0 M (by rw[hz2];omega) (by omega) W
 rw[hz1]at hmk
 have hN9:1<=N/\N<=127:=by omega
 have HN:=Lc (Lr hN9 (Lr hM hpl))
 have hw1:IntKind.i64.wrap ((N:Int)+1)=(M:Int):=by rw[Lh _ (by omega)];omega
 clear h1 h7 hN hM hp7 hp1 hpl hi hz0 hz1 hz2 hN9
 go_enter func241,ntmps241
 go_wp2_with fail
 refine(HTB.out _).mono ?_
 rintro e w1 ⟨A,c,rfl,ho,hb1⟩
 obtain⟨bA,oA,e1,hbl,-⟩:=(aA ho).one 0 (by rw[HN.out.2.2];have:=HN.out.1;omega)
 subst e1
 have HSL:=Lc (aA ho)
 have HB1:=Lc hb1
 have HBL:=Lc hbl
 clear ho hb1 hbl
 go_wp2_with fail
 obtain⟨W0,hW0⟩:∃W,((w1.alloc (.cells #[.slice (some ⟨bA,oA,none⟩) N c] 27)).alloc (.cells (madeCells #[.int .i64 0,.int .i64 0,.int .i64 0] (M*3)) 284)).alloc (.cells #[.slice (some ⟨w1.heap.size+1,0,none⟩) M M] 278)=W:=⟨_,rfl⟩
 have hb0:Below w1.heap.size w1 W0:=by rw[<-hW0];exact(((Below.refl _ _).alloc (Lf _) _).alloc (by simp) _).alloc (by simp;omega) _
 have k1:Blk W0 w1.heap.size 27 #[.slice (some ⟨bA,oA,none⟩) N c]:=by rw[<-hW0];exact((Blk.new _ _ _).alloc _).alloc _
 have k2:Blk W0 (w1.heap.size+1) 284 (wV N noT (bU lv 0)).toArray:=by
  rw[<-hW0]
  have:=Blk.new (w1.alloc (.cells #[.slice (some ⟨bA,oA,none⟩) N c] 27)) 284 (madeCells #[.int .i64 0,.int .i64 0,.int .i64 0] (M*3))
  rw[Ls]at this
  rw[<-HN.out.2.1,CU lv N]at this
  rw[<-HN.out.2.1,CU lv N]
  exact this.alloc _
 have k3:Blk W0 (w1.heap.size+1+1) 278 #[.slice (some ⟨w1.heap.size+1,0,none⟩) M M]:=by
  rw[<-hW0]
  have:=Blk.new ((w1.alloc (.cells #[.slice (some ⟨bA,oA,none⟩) N c] 27)).alloc (.cells (madeCells #[.int .i64 0,.int .i64 0,.int .i64 0] (M*3)) 284)) 278 #[.slice (some ⟨w1.heap.size+1,0,none⟩) M M]
  rwa [Ls,Ls]at this
 try rw[hW0]
 obtain⟨g,hg⟩:∃g,w1.heap.size=g:=⟨_,rfl⟩
 have hgw:w.heap.size<=g:=by rw[<-hg];exact HB1.out.size
 have hbg:bA< g:=by rw[<-hg];exact HBL.out
 rw[hg]at k1 k2 k3
 try rw[hg]
 have HK0:=Lc (Lr k1 (Lr k2 k3))
 have HG:=Lc (Lr hg (Lr hgw hbg))
 have HB2:=Lc hb0
 have c1:W0.cell? ⟨g,0,none⟩=some (.slice (some ⟨bA,oA,none⟩) N c):=k1.cell 0
 clear hW0 hb0 k1 k2 k3 hg hgw hbg hw1
 go_wp2_with fail
 go_loopw [20] (fun e W=>∃k:Nat,k<=N/\e= .int .i64 k/\Hid (Blk W (g+1) 284 (wV N noT (bU lv k)).toArray)/\Hid (Mod (fun b=>b=g+1) W0 W)) (fun e _=>N-(intOf e).toNat)
 case atStart=>exact⟨0,Nat.zero_le _,rfl,HK0.out.2.1,Mod.refl _ _⟩
 case round=>
  obtain⟨k,hk,rfl,hbk,hmd⟩:=hrel
  have k1:=HK0.out.1.mod hmd.out (by omega)
  have k3:=HK0.out.2.2.mod hmd.out (by omega)
  by_cases hlt:k< N
  ·have i1:(k:Int)< (N:Int):=by omega
   have hkl:k< (gU lv).length:=by rw[HN.out.2.2];exact hlt
   obtain⟨b2,o2,e2,hbl2,d2⟩:=HSL.out.one k hkl
   cases e2
   have d3:wr.cell? ⟨bA,oA+k,none⟩=some (.int .i64 (((gU lv).getD k 0:Nat):Int)):=by
    have h1:=HB2.out.cell (p:=⟨bA,oA+k,none⟩) hbl2
    have h2:=hmd.out.cell (p:=⟨bA,oA+k,none⟩) (Nat.lt_of_lt_of_le hbl2 HB2.out.size) (by show bA≠g+1;have:=HG.out.2.2;omega)
    rw[h2,h1,d2,List.getD_eq_getElem?_getD,List.getElem?_eq_getElem hkl];rfl
   have hst:=xI lv k
   obtain⟨p,hp⟩:∃p,(gU lv).getD k 0=p:=⟨_,rfl⟩
   rw[hp]at d3 hst
   have hse:=Ff N noT (bU lv k) (k+1) p
   rw[hst]at hse
   obtain⟨n1,hn1⟩:∃x,k+1=x:=⟨_,rfl⟩
   have HPU:=Lc (Il n1 k N M c p g (g+1+1) (g+1) bA oA wr _ hn1 hlt HN.out.2.1 (by have:=HN.out.1;omega) (k1.cell 0) (k3.cell 0) d3 hbk.out (by simp[jm];have:=HN.out.2.1;omega))
   have HSE:=Lc hse
   have HN1:=Lc hn1
   have hw3:=aT k (by have:=HN.out.1;omega)
   have hw4:IntKind.i64.wrap ((k:Int)+1)=(n1:Int):=by rw[Lh _ (by have:=HN.out.1;omega)];omega
   have HW3:=Lc hw3
   have HLT:=Lc hlt
   clear hst hse hp d2 d3 hkl hbl2 hn1 hlt hw3 k1 k3
   go_wp2_with fail
   refine HPU.out.mono ?_
   rintro e w2 ⟨⟨v,rfl⟩,hw2⟩
   subst hw2
   have hq:Blk (wr.drew.setCell ⟨g+1,n1*3+2,none⟩ (.int .i64 (p:Nat))) (g+1) 284 (wV N noT (bU lv n1)).toArray:=by
    have h1:Blk wr.drew (g+1) 284 (wV N noT (bU lv k)).toArray:=hbk.out
    have h2:=h1.set_ (n1*3+2) (.int .i64 (p:Nat))
    rw[List.setIfInBounds_toArray,<-HN1.out,HSE.out]at h2
    rw[<-HN1.out]
    exact h2
   have hq2:Mod (fun b=>b=g+1) W0 (wr.drew.setCell ⟨g+1,n1*3+2,none⟩ (.int .i64 (p:Nat))):=hmd.out.drew.setCell (p:=⟨g+1,n1*3+2,none⟩) rfl _
   have HQ:=Lc hq
   have HQ2:=Lc hq2
   obtain⟨W5,hW5⟩:∃W,wr.drew.setCell ⟨g+1,n1*3+2,none⟩ (.int .i64 (p:Nat))=W:=⟨_,rfl⟩
   rw[hW5]at HQ HQ2
   try rw[hW5]
   clear hq hq2 hW5
   go_wp2_with fail
   go_roundw
   case rel=>exact⟨n1,by have:=HLT.out;have:=HN1.out;omega,by first|rw[HW3.out,HN1.out]|rw[<-HN1.out]|(rw[<-HN1.out];rfl),HQ.out,HQ2.out⟩
   case measure=>first|exact bO _ k HLT.out HW3.out|(have:=HLT.out;have:=HN1.out;simp[intOf];omega)
  ·obtain rfl:k=N:=by omega
   have i1:¬(k:Int)< (k:Int):=by omega
   have c5:wr.cell? ⟨g+1+1,0,none⟩=some (.slice (some ⟨g+1,0,none⟩) M M):=k3.cell 0
   have HBE:=Lc (show Below w.heap.size w wr from(aa HB1.out HB2.out).trans (hmd.out.below (aa HB1.out HB2.out).size (fun b hb=>by have hb:b=g+1:=hb;have:=HG.out.2.1;omega)))
   clear hlt hk k1 k3
   go_wp2_with fail
   go_ret
   exact⟨g+1,rfl,hbk.out,by have:=HG.out.2.1;omega,HBE.out⟩
def gZ (s:Ss) (F:Nat):Nat->Nat->Td
 |0,n=>dH s (n-F)
 |h+1,n=>jC (gZ s F h (2*n)) (gZ s F h (2*n+1))
theorem kP (s:Ss) (F:Nat):∀h n,(gZ s F h n).many<=2 ^ h*s.seg.toNat
 |0,n=>by rw[Nat.pow_zero,Nat.one_mul];exact yR s _
 |h+1,n=>by
  have h1:=kP s F h (2*n)
  have h2:=kP s F h (2*n+1)
  rw[gZ,M8,Mk (2 ^ h) 2,MB]
  unfold jC
  split
  ·dsimp only;omega
  ·omega
structure NodeH (F h n:Nat):Prop where
 lo:F<=n*2 ^ h
 hi:(n+1)*2 ^ h<=2*F
theorem NodeH.left {F h n:Nat} (k:NodeH F (h+1) n):NodeH F h (2*n):=by
 have e:2 ^ (h+1)=2*2 ^ h:=by rw[M8,Mk]
 have h1:=k.lo
 have h2:=k.hi
 rw[e,<-MB]at h1 h2
 refine⟨by rw[Mk 2 n];exact h1,Lt (Mg _ (by omega)) h2⟩
theorem NodeH.right {F h n:Nat} (k:NodeH F (h+1) n):NodeH F h (2*n+1):=by
 have e:2 ^ (h+1)=2*2 ^ h:=by rw[M8,Mk]
 have h1:=k.lo
 have h2:=k.hi
 rw[e,<-MB]at h1 h2
 refine⟨Lt h1 (Mg _ (by omega)),Lt (Mg _ (by omega)) h2⟩
theorem NodeH.lt {F h n:Nat} (k:NodeH F (h+1) n):n+1<=F:=by
 have e:2 ^ (h+1)=2*2 ^ h:=by rw[M8,Mk]
 have h2:=k.hi
 rw[e]at h2
 have h3:(n+1)*2*1<=(n+1)*2*2 ^ h:=Nat.mul_le_mul_left _ (M6 h)
 rw[MB (n+1) 2 (2 ^ h)]at h3
 omega
theorem NodeH.le {F n:Nat} (k:NodeH F 0 n):F<=n/\n-F< F:=by
 have h1:=k.lo
 have h2:=k.hi
 rw[Nat.pow_zero,Nat.mul_one]at h1 h2
 omega
theorem Ci:(prog.info? 193).map (·.size)=some 2:=by kernel_rfl
theorem Jp (w:World) (s:Ss):∃W,(w.alloc (.cells s.row 29)).alloc (.cells #[.int .i64 0,.int .i64 0] 193)=W/\Below w.heap.size w W/\Blk W w.heap.size 29 s.row/\Blk W (w.heap.size+1) 193 #[.int .i64 0,.int .i64 0]:=by
 refine⟨_,rfl,((Below.refl _ _).alloc (Lf _) _).alloc (by simp) _,(Blk.new _ _ _).alloc _,?_⟩
 have:=Blk.new (w.alloc (.cells s.row 29)) 193 #[.int .i64 0,.int .i64 0]
 rwa [Ls]at this
theorem ni {P:Prop} (h:P:=by
  iterate 6 apply Exists.intro
  refine⟨rfl,?_,?_,?_,?_,?_,?_,?_,?_,?_,?_,?_,?_,?_⟩
  ·first|exact aR (MK _) _ 0 _ HB.out|exact HB.out|exact aa HB.out hb1
  ·first|(intro h;refine absurd h ?_;simp;done;done)|exact fun h=>⟨HG.out,HG1.out⟩|exact fun h=>⟨HG.out.below hb1 HG.out.lt,HG1.out.below hb1 HG1.out.lt⟩
  ·first|exact F0.out|exact fun _=>rfl
  ·first|exact F1.out|exact fun _=>rfl
  ·first|exact F2.out|exact fun _=>rfl
  ·first|exact F3.out|exact fun _=>rfl
  ·first|exact F4.out|exact fun _=>rfl
  ·first|exact F5.out|exact fun _=>rfl
  ·first|exact(fun h=>absurd (show L 6=true by simpa using h) (by rw[hlast];exact Ld))|(intro _;simpa[dn]using Blk.setCells (#[.int .i64 (dH s k).max,.int .i64 (((dH s k).many:Nat):Int)]:Array Value).toList 0 _ _ HG1.out;done)
  ·first|(intro h;have hh:=C3.out (by simpa using h);simp[hh];done)|(intro _;simp[hl2];done)
  ·first|(intro h;have hh:=C4.out (by simpa using h);simp[hh];done)|(intro _;simp[hl1,hl3];done)
  ·first|(intro h;have hh:=C5.out (by simpa using h);simp[hh];done)|(intro _;simp[hl0,hl4];done)
  ·first|(intro h;have hh:=C6.out (by simpa using h);simp[hh];done)|(intro _;simp[hl5];done)):P:=h
theorem fT {P:Prop} (h:P:=by
  iterate 12 apply Exists.intro
  refine⟨rfl,?_,?_,?_,?_,?_,?_,?_,?_,?_,?_,?_,?_,?_,?_,?_,?_,?_,?_,?_,?_,?_,?_⟩
  ·first|exact aR (MK _) _ 0 _ HB.out|exact HB.out|exact aa HB.out hb1
  ·first|(intro h;refine absurd h ?_;simp;done;done)|exact fun h=>⟨HG.out,HG1.out⟩|exact fun h=>⟨HG.out.below hb1 HG.out.lt,HG1.out.below hb1 HG1.out.lt⟩
  ·first|exact F0.out|exact fun _=>rfl
  ·first|exact F1.out|exact fun _=>rfl
  ·first|exact F2.out|exact fun _=>rfl
  ·first|exact F3.out|exact fun _=>rfl
  ·first|exact F4.out|exact fun _=>rfl
  ·first|exact F5.out|exact fun _=>rfl
  ·first|exact F6.out|exact fun _=>rfl
  ·first|exact F7.out|exact fun _=>rfl
  ·first|exact F8.out|exact fun _=>rfl
  ·first|exact F9.out|exact fun _=>rfl
  ·first|exact F10.out|exact fun _=>rfl
  ·first|exact F11.out|exact fun _=>rfl
  ·first|exact(fun h=>absurd (show L 12=true by simpa using h) (by rw[hlast];exact Ld))|(intro _;simpa[dn]using Blk.setCells (#[.int .i64 (V).max,.int .i64 (((V).many:Nat):Int)]:Array Value).toList 0 _ _ HG1.out;done)
  ·first|(intro h;have hh:=C3.out (by simpa using h);simp[hh];done)|(intro _;simp[hl2];done)
  ·first|(intro h;have hh:=C4.out (by simpa using h);simp[hh];done)|(intro _;simp[hl0,hl1,hl3];done)
  ·first|(intro h;have hh:=C8.out (by simpa using h);simp[hh];done)|(intro _;simp[hl7];done)
  ·first|(intro h;have hh:=C9.out (by simpa using h);simp[hh];done)|(intro _;simp[hl8];done)
  ·first|(intro h;have hh:=C10.out (by simpa using h);simp[hh];done)|(intro _;simp[hl5,hl6,hl9];done)
  ·first|(intro h;have hh:=C11.out (by simpa using h);simp[hh];done)|(intro _;simp[hl4,hl10];done)
  ·first|(intro h;have hh:=C12.out (by simpa using h);simp[hh];done)|(intro _;simp[hl11];done)):P:=h
theorem zH (s:Ss) (lv F:Nat) (ho:SsOk s) (hm:bB s=true) (h1:1<=lv) (h7:lv<=7) (hF:2 ^ (lv-1)=F) (hD:s.cs.length=F):∀(h n:Nat) (w:World),SsAt w s->h<=6->NodeH F h n->
  Calls prog 136 #[.agg s.row,.int .i64 (lv:Nat),.int .i64 (n:Nat)] w fun r w'=>r= .returned (.agg (gZ s F h n).row)/\Below w.heap.size w w':=by
 have hF9:F<=64:=by rw[<-hF];exact LQ (n:=2) (j:=6) (by decide) (by omega)
 have HFI:=Lc (fun W=>wZ lv F W h1 h7 hF)
 have hsg:=fC hm
 intro h
 induction h with
 |zero=>
  intro n w hs _ hN
  obtain⟨k,hk⟩:∃k,n-F=k:=⟨_,rfl⟩
  have hle:=hN.le
  rw[gZ,hk]
  rw[hk]at hle
  have i1:(F:Int)<=(n:Int):=by omega
  have i2:F<=n:=hle.1
  have hw1:IntKind.i64.wrap ((n:Int)-(F:Int))=(k:Int):=by rw[Lh _ (by omega)];omega
  obtain⟨W0,hW0,hb0,b0,bt⟩:=Jp w s
  have HLF:=Lc (fun W (hW:Below w.heap.size w W)=>Av s k W (hs.below hW) ho hm (by omega))
  have HW0:=Lc hW0
  have HB0:=Lc hb0
  have HC0:=Lc b0
  have HR0:=Lc bt
  clear hk hle hW0 hb0 b0 bt hs hN ho hm h1 h7 hF hD hF9 hsg
  go_enter func136,ntmps136
  go_upto_region 1 with fail
  rw[HW0.out]
  go_wp2_with fail
  refine(HFI.out _).mono ?_
  rintro e w1 ⟨rfl,hw⟩
  rw[hw]
  clear hw w1
  go_upto_region 2 with fail
  refine aM (by kernel_rfl) (by kernel_rfl) (fun L a W=>∃(t11 t12 t13 t14 t15 t16:Value),a=⟨#[(.agg s.row),.int .i64 (lv:Nat),.int .i64 (n:Nat),.pointer (some ⟨w.heap.size,0,none⟩),undef,undef,.pointer (some ⟨w.heap.size+1,0,none⟩),.int .i64 (n:Nat),.int .i64 (lv:Nat),.int .i64 (F:Nat),.bool true,t11,t12,t13,t14,t15,t16,undef,undef,undef,undef,undef,undef,undef,undef,undef,undef,undef,undef],[]⟩/\Below w.heap.size w W/\(L 6=false->Blk W w.heap.size 29 s.row/\Blk W (w.heap.size+1) 193 #[.int .i64 0,.int .i64 0])/\(L 0=true->t11= .agg s.row)/\(L 1=true->t12= .int .i64 (n:Nat))/\(L 2=true->t13= .int .i64 (lv:Nat))/\(L 3=true->t14= .int .i64 (F:Nat))/\(L 4=true->t15= .int .i64 (k:Nat))/\(L 5=true->t16= .agg #[.int .i64 (dH s k).max,.int .i64 (((dH s k).many:Nat):Int)])/\(L 6=true->Blk W (w.heap.size+1) 193 #[.int .i64 (dH s k).max,.int .i64 (((dH s k).many:Nat):Int)])/\(L 3=true->L 2=true)/\(L 4=true->L 1=true/\L 3=true)/\(L 5=true->L 0=true/\L 4=true)/\(L 6=true->L 5=true)) ?h0 ?hstep ?hend
  case h0=>exact⟨undef,undef,undef,undef,undef,undef,rfl,HB0.out.drew,fun _=>⟨HC0.out,HR0.out⟩,fun h=>absurd h Ld,fun h=>absurd h Ld,fun h=>absurd h Ld,fun h=>absurd h Ld,fun h=>absurd h Ld,fun h=>absurd h Ld,fun h=>absurd h Ld,fun h=>absurd h Ld,fun h=>absurd h Ld,fun h=>absurd h Ld,fun h=>absurd h Ld⟩
  case hend=>
   rintro L a W hall ⟨t11,t12,t13,t14,t15,t16,rfl,hb,hst,f0,f1,f2,f3,f4,f5,f6,c3,c4,c5,c6⟩
   have z0:=f0 (hall 0 (by decide))
   have z1:=f1 (hall 1 (by decide))
   have z2:=f2 (hall 2 (by decide))
   have z3:=f3 (hall 3 (by decide))
   have z4:=f4 (hall 4 (by decide))
   have z5:=f5 (hall 5 (by decide))
   have z6:=f6 (hall 6 (by decide))
   clear hall hst f0 f1 f2 f3 f4 f5 f6 c3 c4 c5 c6
   have HR3:=Lc z6
   have HB3:=Lc hb
   clear z0 z1 z2 z3 z4 z5 z6 hb
   have p0:W.cell? ⟨w.heap.size+1,0,none⟩=some (.int .i64 (dH s k).max):=HR3.out.cell 0
   have p1:W.cell? ⟨w.heap.size+1,1,none⟩=some (.int .i64 (((dH s k).many:Nat):Int)):=HR3.out.cell 1
   go_wp2_with fail
   refine Li (v:= .agg #[.int .i64 (dH s k).max,.int .i64 (((dH s k).many:Nat):Int)]) (by simp[results,results136,go_sem,p0,p1]) rfl ?_
   exact⟨rfl,HB3.out⟩
  case hstep=>
   rintro L a W i o ho hLi hdep ⟨t11,t12,t13,t14,t15,t16,rfl,hb,hst,f0,f1,f2,f3,f4,f5,f6,c3,c4,c5,c6⟩
   have HST:=Lc hst
   have F0:=Lc f0
   have F1:=Lc f1
   have F2:=Lc f2
   have F3:=Lc f3
   have F4:=Lc f4
   have F5:=Lc f5
   have F6:=Lc f6
   have C3:=Lc c3
   have C4:=Lc c4
   have C5:=Lc c5
   have C6:=Lc c6
   have HB:=Lc hb
   clear hb hst f0 f1 f2 f3 f4 f5 f6 c3 c4 c5 c6
   have HLi:=Lc hLi
   clear hLi
   match i,ho with
   |0,ho=>
    obtain rfl:=Le ho
    clear hdep
    have hlast:L 6=false:=by
     cases h:L 6 with
     |false=>rfl
     |true=>exact absurd ((C5.out (C6.out h)).1) (by rw[HLi.out];exact Ld)
    obtain⟨hg,hg1⟩:=HST.out hlast
    have HG:=Lc hg
    have HG1:=Lc hg1
    clear hg hg1
    refine Lj rfl (fun K1 hK1=>?_)
    have hK:=Lc hK1
    clear hK1
    refine eO rfl 29 (.tmp 3) rfl w.heap.size 0 rfl s.row.toList _ (ae HG.out 0 6 rfl) underlying29 rfl eQ ?_
    refine hK.out _ _ ?_;exact ni
   |1,ho=>
    obtain rfl:=Le ho
    clear hdep
    have hlast:L 6=false:=by
     cases h:L 6 with
     |false=>rfl
     |true=>exact absurd ((C4.out (C5.out (C6.out h)).2).1) (by rw[HLi.out];exact Ld)
    obtain⟨hg,hg1⟩:=HST.out hlast
    have HG:=Lc hg
    have HG1:=Lc hg1
    clear hg hg1
    refine Lj rfl (fun K1 hK1=>?_)
    have hK:=Lc hK1
    clear hK1
    go_wp2_with fail
    refine hK.out _ _ ?_;exact ni
   |2,ho=>
    obtain rfl:=Le ho
    clear hdep
    have hlast:L 6=false:=by
     cases h:L 6 with
     |false=>rfl
     |true=>exact absurd ((C3.out (C4.out (C5.out (C6.out h)).2).2)) (by rw[HLi.out];exact Ld)
    obtain⟨hg,hg1⟩:=HST.out hlast
    have HG:=Lc hg
    have HG1:=Lc hg1
    clear hg hg1
    refine Lj rfl (fun K1 hK1=>?_)
    have hK:=Lc hK1
    clear hK1
    go_wp2_with fail
    refine hK.out _ _ ?_;exact ni
   |3,ho=>
    obtain rfl:=Le ho
    have hl2:=hdep ⟨2,.data⟩ (by simp) rfl
    obtain rfl:=F2.out hl2
    clear hdep
    have hlast:L 6=false:=by
     cases h:L 6 with
     |false=>rfl
     |true=>exact absurd ((C4.out (C5.out (C6.out h)).2).2) (by rw[HLi.out];exact Ld)
    obtain⟨hg,hg1⟩:=HST.out hlast
    have HG:=Lc hg
    have HG1:=Lc hg1
    clear hg hg1
    refine Lj rfl (fun K1 hK1=>?_)
    have hK:=Lc hK1
    clear hK1
    go_wp2_with (go_at_call 156;refine(HFI.out _).mono ?_;rintro e1 W1 ⟨rfl,hw1⟩)
    subst hw1
    have hb1:=Below.refl W1.heap.size W1
    refine hK.out _ _ ?_;exact ni
   |4,ho=>
    obtain rfl:=Le ho
    have hl1:=hdep ⟨1,.data⟩ (by simp) rfl
    obtain rfl:=F1.out hl1
    have hl3:=hdep ⟨3,.data⟩ (by simp) rfl
    obtain rfl:=F3.out hl3
    clear hdep
    have hlast:L 6=false:=by
     cases h:L 6 with
     |false=>rfl
     |true=>exact absurd ((C5.out (C6.out h)).2) (by rw[HLi.out];exact Ld)
    obtain⟨hg,hg1⟩:=HST.out hlast
    have HG:=Lc hg
    have HG1:=Lc hg1
    clear hg hg1
    refine Lj rfl (fun K1 hK1=>?_)
    have hK:=Lc hK1
    clear hK1
    go_wp2_with fail
    refine hK.out _ _ ?_;exact ni
   |5,ho=>
    obtain rfl:=Le ho
    have hl0:=hdep ⟨0,.data⟩ (by simp) rfl
    obtain rfl:=F0.out hl0
    have hl4:=hdep ⟨4,.data⟩ (by simp) rfl
    obtain rfl:=F4.out hl4
    clear hdep
    have hlast:L 6=false:=by
     cases h:L 6 with
     |false=>rfl
     |true=>exact absurd ((C6.out h)) (by rw[HLi.out];exact Ld)
    obtain⟨hg,hg1⟩:=HST.out hlast
    have HG:=Lc hg
    have HG1:=Lc hg1
    clear hg hg1
    refine Lj rfl (fun K1 hK1=>?_)
    have hK:=Lc hK1
    clear hK1
    go_wp2_with (go_at_call 157;refine(HLF.out _ HB.out).mono ?_;rintro e1 W1 ⟨rfl,hb1⟩)
    refine hK.out _ _ ?_;exact ni
   |6,ho=>
    obtain rfl:=Le ho
    have hl5:=hdep ⟨5,.data⟩ (by simp) rfl
    obtain rfl:=F5.out hl5
    clear hdep
    have hlast:=HLi.out
    obtain⟨hg,hg1⟩:=HST.out hlast
    have HG:=Lc hg
    have HG1:=Lc hg1
    clear hg hg1
    refine Lj rfl (fun K1 hK1=>?_)
    have hK:=Lc hK1
    clear hK1
    refine aP rfl 193 (.tmp 6) (.tmp 16) rfl (w.heap.size+1) 0 #[.int .i64 (dH s k).max,.int .i64 (((dH s k).many:Nat):Int)] rfl rfl (bI HG1.out 0 2 (by simp)) Ci (LH (by simp[Value.oneCell'])) ?_
    refine hK.out _ _ ?_;exact ni
 |succ h ih=>
  intro n w hs hh hN
  have hT1:=fun W (hW:Below w.heap.size w W)=>ih (2*n) W (hs.below hW) (by omega) hN.left
  have hT2:=fun W (hW:Below w.heap.size w W)=>ih (2*n+1) W (hs.below hW) (by omega) hN.right
  have hlt:=hN.lt
  have hab:=fun W=>yS (gZ s F h (2*n)) (gZ s F h (2*n+1)) W (by
   have:=kP s F h (2*n)
   have h6:2 ^ h*s.seg.toNat<=64*64:=M0 (LQ (n:=2) (j:=6) (by decide) (by omega)) hsg.g64
   omega) (by
   have:=kP s F h (2*n+1)
   have h6:2 ^ h*s.seg.toNat<=64*64:=M0 (LQ (n:=2) (j:=6) (by decide) (by omega)) hsg.g64
   omega)
  rw[gZ]
  obtain⟨A,hA⟩:∃A,gZ s F h (2*n)=A:=⟨_,rfl⟩
  obtain⟨B,hB⟩:∃A,gZ s F h (2*n+1)=A:=⟨_,rfl⟩
  rw[hA]at hT1 hab ⊢
  rw[hB]at hT2 hab ⊢
  obtain⟨V,hV⟩:∃V,jC A B=V:=⟨_,rfl⟩
  rw[hV]at hab ⊢
  have y1:IntKind.i64.wrap (2*(n:Int))=((2*n:Nat):Int):=by rw[Lh _ (by omega)];omega
  have y2:IntKind.i64.wrap (((2*n:Nat):Int)+1)=((2*n+1:Nat):Int):=by rw[Lh _ (by omega)];omega
  obtain⟨m1,hm1⟩:∃m,2*n+1=m:=⟨_,rfl⟩
  obtain⟨m,hm2⟩:∃m,2*n=m:=⟨_,rfl⟩
  rw[hm1]at hT2 y2
  rw[hm2]at hT1 y1 y2
  have i1:¬(F:Int)<=(n:Int):=by omega
  have i2:¬F<=n:=by omega
  obtain⟨W0,hW0,hb0,b0,bt⟩:=Jp w s
  have HT1:=Lc hT1
  have HT2:=Lc hT2
  have HAB:=Lc hab
  have HDI:=Lc trivial
  have HW0:=Lc hW0
  have HB0:=Lc hb0
  have HC0:=Lc b0
  have HR0:=Lc bt
  clear hA hB hV hm1 hm2 hT1 hT2 hab hW0 hb0 b0 bt hs hN ho hm h1 h7 hF hD hF9 hsg ih hh hlt
  go_enter func136,ntmps136
  go_upto_region 1 with fail
  rw[HW0.out]
  go_wp2_with fail
  refine(HFI.out _).mono ?_
  rintro e w1 ⟨rfl,hw⟩
  rw[hw]
  clear hw w1
  go_upto_region 3 with fail
  refine aM (by kernel_rfl) (by kernel_rfl) (fun L a W=>∃(t17 t18 t19 t20 t21 t22 t23 t24 t25 t26 t27 t28:Value),a=⟨#[(.agg s.row),.int .i64 (lv:Nat),.int .i64 (n:Nat),.pointer (some ⟨w.heap.size,0,none⟩),undef,undef,.pointer (some ⟨w.heap.size+1,0,none⟩),.int .i64 (n:Nat),.int .i64 (lv:Nat),.int .i64 (F:Nat),.bool false,undef,undef,undef,undef,undef,undef,t17,t18,t19,t20,t21,t22,t23,t24,t25,t26,t27,t28],[]⟩/\Below w.heap.size w W/\(L 12=false->Blk W w.heap.size 29 s.row/\Blk W (w.heap.size+1) 193 #[.int .i64 0,.int .i64 0])/\(L 0=true->t17= .agg s.row)/\(L 1=true->t18= .int .i64 (lv:Nat))/\(L 2=true->t19= .int .i64 (n:Nat))/\(L 3=true->t20= .int .i64 (m:Nat))/\(L 4=true->t21= .agg #[.int .i64 (A).max,.int .i64 (((A).many:Nat):Int)])/\(L 5=true->t22= .agg s.row)/\(L 6=true->t23= .int .i64 (lv:Nat))/\(L 7=true->t24= .int .i64 (n:Nat))/\(L 8=true->t25= .int .i64 (m:Nat))/\(L 9=true->t26= .int .i64 (m1:Nat))/\(L 10=true->t27= .agg #[.int .i64 (B).max,.int .i64 (((B).many:Nat):Int)])/\(L 11=true->t28= .agg #[.int .i64 (V).max,.int .i64 (((V).many:Nat):Int)])/\(L 12=true->Blk W (w.heap.size+1) 193 #[.int .i64 (V).max,.int .i64 (((V).many:Nat):Int)])/\(L 3=true->L 2=true)/\(L 4=true->L 0=true/\L 1=true/\L 3=true)/\(L 8=true->L 7=true)/\(L 9=true->L 8=true)/\(L 10=true->L 5=true/\L 6=true/\L 9=true)/\(L 11=true->L 4=true/\L 10=true)/\(L 12=true->L 11=true)) ?h0 ?hstep ?hend
  case h0=>exact⟨undef,undef,undef,undef,undef,undef,undef,undef,undef,undef,undef,undef,rfl,HB0.out.drew,fun _=>⟨HC0.out,HR0.out⟩,fun h=>absurd h Ld,fun h=>absurd h Ld,fun h=>absurd h Ld,fun h=>absurd h Ld,fun h=>absurd h Ld,fun h=>absurd h Ld,fun h=>absurd h Ld,fun h=>absurd h Ld,fun h=>absurd h Ld,fun h=>absurd h Ld,fun h=>absurd h Ld,fun h=>absurd h Ld,fun h=>absurd h Ld,fun h=>absurd h Ld,fun h=>absurd h Ld,fun h=>absurd h Ld,fun h=>absurd h Ld,fun h=>absurd h Ld,fun h=>absurd h Ld,fun h=>absurd h Ld⟩
  case hend=>
   rintro L a W hall ⟨t17,t18,t19,t20,t21,t22,t23,t24,t25,t26,t27,t28,rfl,hb,hst,f0,f1,f2,f3,f4,f5,f6,f7,f8,f9,f10,f11,f12,c3,c4,c8,c9,c10,c11,c12⟩
   have z0:=f0 (hall 0 (by decide))
   have z1:=f1 (hall 1 (by decide))
   have z2:=f2 (hall 2 (by decide))
   have z3:=f3 (hall 3 (by decide))
   have z4:=f4 (hall 4 (by decide))
   have z5:=f5 (hall 5 (by decide))
   have z6:=f6 (hall 6 (by decide))
   have z7:=f7 (hall 7 (by decide))
   have z8:=f8 (hall 8 (by decide))
   have z9:=f9 (hall 9 (by decide))
   have z10:=f10 (hall 10 (by decide))
   have z11:=f11 (hall 11 (by decide))
   have z12:=f12 (hall 12 (by decide))
   clear hall hst f0 f1 f2 f3 f4 f5 f6 f7 f8 f9 f10 f11 f12 c3 c4 c8 c9 c10 c11 c12
   have HR3:=Lc z12
   have HB3:=Lc hb
   clear z0 z1 z2 z3 z4 z5 z6 z7 z8 z9 z10 z11 z12 hb
   have p0:W.cell? ⟨w.heap.size+1,0,none⟩=some (.int .i64 (V).max):=HR3.out.cell 0
   have p1:W.cell? ⟨w.heap.size+1,1,none⟩=some (.int .i64 (((V).many:Nat):Int)):=HR3.out.cell 1
   go_wp2_with fail
   refine Li (v:= .agg #[.int .i64 (V).max,.int .i64 (((V).many:Nat):Int)]) (by simp[results,results136,go_sem,p0,p1]) rfl ?_
   exact⟨rfl,HB3.out⟩
  case hstep=>
   rintro L a W i o ho hLi hdep ⟨t17,t18,t19,t20,t21,t22,t23,t24,t25,t26,t27,t28,rfl,hb,hst,f0,f1,f2,f3,f4,f5,f6,f7,f8,f9,f10,f11,f12,c3,c4,c8,c9,c10,c11,c12⟩
   have HST:=Lc hst
   have F0:=Lc f0
   have F1:=Lc f1
   have F2:=Lc f2
   have F3:=Lc f3
   have F4:=Lc f4
   have F5:=Lc f5
   have F6:=Lc f6
   have F7:=Lc f7
   have F8:=Lc f8
   have F9:=Lc f9
   have F10:=Lc f10
   have F11:=Lc f11
   have F12:=Lc f12
   have C3:=Lc c3
   have C4:=Lc c4
   have C8:=Lc c8
   have C9:=Lc c9
   have C10:=Lc c10
   have C11:=Lc c11
   have C12:=Lc c12
   have HB:=Lc hb
   clear hb hst f0 f1 f2 f3 f4 f5 f6 f7 f8 f9 f10 f11 f12 c3 c4 c8 c9 c10 c11 c12
   have HLi:=Lc hLi
   clear hLi
   match i,ho with
   |0,ho=>
    obtain rfl:=Le ho
    clear hdep
    have hlast:L 12=false:=by
     cases h:L 12 with
     |false=>rfl
     |true=>exact absurd ((C4.out (C11.out (C12.out h)).1).1) (by rw[HLi.out];exact Ld)
    obtain⟨hg,hg1⟩:=HST.out hlast
    have HG:=Lc hg
    have HG1:=Lc hg1
    clear hg hg1
    refine Lj rfl (fun K1 hK1=>?_)
    have hK:=Lc hK1
    clear hK1
    refine eO rfl 29 (.tmp 3) rfl w.heap.size 0 rfl s.row.toList _ (ae HG.out 0 6 rfl) underlying29 rfl eQ ?_
    refine hK.out _ _ ?_;exact fT
   |1,ho=>
    obtain rfl:=Le ho
    clear hdep
    have hlast:L 12=false:=by
     cases h:L 12 with
     |false=>rfl
     |true=>exact absurd ((C4.out (C11.out (C12.out h)).1).2.1) (by rw[HLi.out];exact Ld)
    obtain⟨hg,hg1⟩:=HST.out hlast
    have HG:=Lc hg
    have HG1:=Lc hg1
    clear hg hg1
    refine Lj rfl (fun K1 hK1=>?_)
    have hK:=Lc hK1
    clear hK1
    go_wp2_with fail
    refine hK.out _ _ ?_;exact fT
   |2,ho=>
    obtain rfl:=Le ho
    clear hdep
    have hlast:L 12=false:=by
     cases h:L 12 with
     |false=>rfl
     |true=>exact absurd ((C3.out (C4.out (C11.out (C12.out h)).1).2.2)) (by rw[HLi.out];exact Ld)
    obtain⟨hg,hg1⟩:=HST.out hlast
    have HG:=Lc hg
    have HG1:=Lc hg1
    clear hg hg1
    refine Lj rfl (fun K1 hK1=>?_)
    have hK:=Lc hK1
    clear hK1
    go_wp2_with fail
    refine hK.out _ _ ?_;exact fT
   |3,ho=>
    obtain rfl:=Le ho
    have hl2:=hdep ⟨2,.data⟩ (by simp) rfl
    obtain rfl:=F2.out hl2
    clear hdep
    have hlast:L 12=false:=by
     cases h:L 12 with
     |false=>rfl
     |true=>exact absurd ((C4.out (C11.out (C12.out h)).1).2.2) (by rw[HLi.out];exact Ld)
    obtain⟨hg,hg1⟩:=HST.out hlast
    have HG:=Lc hg
    have HG1:=Lc hg1
    clear hg hg1
    refine Lj rfl (fun K1 hK1=>?_)
    have hK:=Lc hK1
    clear hK1
    go_wp2_with fail
    refine hK.out _ _ ?_;exact fT
   |4,ho=>
    obtain rfl:=Le ho
    have hl0:=hdep ⟨0,.data⟩ (by simp) rfl
    obtain rfl:=F0.out hl0
    have hl1:=hdep ⟨1,.data⟩ (by simp) rfl
    obtain rfl:=F1.out hl1
    have hl3:=hdep ⟨3,.data⟩ (by simp) rfl
    obtain rfl:=F3.out hl3
    clear hdep
    have hlast:L 12=false:=by
     cases h:L 12 with
     |false=>rfl
     |true=>exact absurd ((C11.out (C12.out h)).1) (by rw[HLi.out];exact Ld)
    obtain⟨hg,hg1⟩:=HST.out hlast
    have HG:=Lc hg
    have HG1:=Lc hg1
    clear hg hg1
    refine Lj rfl (fun K1 hK1=>?_)
    have hK:=Lc hK1
    clear hK1
    have hd:=HDI.out
    go_wp2_with (go_at_call 136;refine(HT1.out _ HB.out).mono ?_;rintro e1 W1 ⟨rfl,hb1⟩)
    refine hK.out _ _ ?_;exact fT
   |5,ho=>
    obtain rfl:=Le ho
    clear hdep
    have hlast:L 12=false:=by
     cases h:L 12 with
     |false=>rfl
     |true=>exact absurd ((C10.out (C11.out (C12.out h)).2).1) (by rw[HLi.out];exact Ld)
    obtain⟨hg,hg1⟩:=HST.out hlast
    have HG:=Lc hg
    have HG1:=Lc hg1
    clear hg hg1
    refine Lj rfl (fun K1 hK1=>?_)
    have hK:=Lc hK1
    clear hK1
    refine eO rfl 29 (.tmp 3) rfl w.heap.size 0 rfl s.row.toList _ (ae HG.out 0 6 rfl) underlying29 rfl eQ ?_
    refine hK.out _ _ ?_;exact fT
   |6,ho=>
    obtain rfl:=Le ho
    clear hdep
    have hlast:L 12=false:=by
     cases h:L 12 with
     |false=>rfl
     |true=>exact absurd ((C10.out (C11.out (C12.out h)).2).2.1) (by rw[HLi.out];exact Ld)
    obtain⟨hg,hg1⟩:=HST.out hlast
    have HG:=Lc hg
    have HG1:=Lc hg1
    clear hg hg1
    refine Lj rfl (fun K1 hK1=>?_)
    have hK:=Lc hK1
    clear hK1
    go_wp2_with fail
    refine hK.out _ _ ?_;exact fT
   |7,ho=>
    obtain rfl:=Le ho
    clear hdep
    have hlast:L 12=false:=by
     cases h:L 12 with
     |false=>rfl
     |true=>exact absurd ((C8.out (C9.out (C10.out (C11.out (C12.out h)).2).2.2))) (by rw[HLi.out];exact Ld)
    obtain⟨hg,hg1⟩:=HST.out hlast
    have HG:=Lc hg
    have HG1:=Lc hg1
    clear hg hg1
    refine Lj rfl (fun K1 hK1=>?_)
    have hK:=Lc hK1
    clear hK1
    go_wp2_with fail
    refine hK.out _ _ ?_;exact fT
   |8,ho=>
    obtain rfl:=Le ho
    have hl7:=hdep ⟨7,.data⟩ (by simp) rfl
    obtain rfl:=F7.out hl7
    clear hdep
    have hlast:L 12=false:=by
     cases h:L 12 with
     |false=>rfl
     |true=>exact absurd ((C9.out (C10.out (C11.out (C12.out h)).2).2.2)) (by rw[HLi.out];exact Ld)
    obtain⟨hg,hg1⟩:=HST.out hlast
    have HG:=Lc hg
    have HG1:=Lc hg1
    clear hg hg1
    refine Lj rfl (fun K1 hK1=>?_)
    have hK:=Lc hK1
    clear hK1
    go_wp2_with fail
    refine hK.out _ _ ?_;exact fT
   |9,ho=>
    obtain rfl:=Le ho
    have hl8:=hdep ⟨8,.data⟩ (by simp) rfl
    obtain rfl:=F8.out hl8
    clear hdep
    have hlast:L 12=false:=by
     cases h:L 12 with
     |false=>rfl
     |true=>exact absurd ((C10.out (C11.out (C12.out h)).2).2.2) (by rw[HLi.out];exact Ld)
    obtain⟨hg,hg1⟩:=HST.out hlast
    have HG:=Lc hg
    have HG1:=Lc hg1
    clear hg hg1
    refine Lj rfl (fun K1 hK1=>?_)
    have hK:=Lc hK1
    clear hK1
    go_wp2_with fail
    refine hK.out _ _ ?_;exact fT
   |10,ho=>
    obtain rfl:=Le ho
    have hl5:=hdep ⟨5,.data⟩ (by simp) rfl
    obtain rfl:=F5.out hl5
    have hl6:=hdep ⟨6,.data⟩ (by simp) rfl
    obtain rfl:=F6.out hl6
    have hl9:=hdep ⟨9,.data⟩ (by simp) rfl
    obtain rfl:=F9.out hl9
    clear hdep
    have hlast:L 12=false:=by
     cases h:L 12 with
     |false=>rfl
     |true=>exact absurd ((C11.out (C12.out h)).2) (by rw[HLi.out];exact Ld)
    obtain⟨hg,hg1⟩:=HST.out hlast
    have HG:=Lc hg
    have HG1:=Lc hg1
    clear hg hg1
    refine Lj rfl (fun K1 hK1=>?_)
    have hK:=Lc hK1
    clear hK1
    go_wp2_with (go_at_call 136;refine(HT2.out _ HB.out).mono ?_;rintro e1 W1 ⟨rfl,hb1⟩)
    refine hK.out _ _ ?_;exact fT
   |11,ho=>
    obtain rfl:=Le ho
    have hl4:=hdep ⟨4,.data⟩ (by simp) rfl
    obtain rfl:=F4.out hl4
    have hl10:=hdep ⟨10,.data⟩ (by simp) rfl
    obtain rfl:=F10.out hl10
    clear hdep
    have hlast:L 12=false:=by
     cases h:L 12 with
     |false=>rfl
     |true=>exact absurd ((C12.out h)) (by rw[HLi.out];exact Ld)
    obtain⟨hg,hg1⟩:=HST.out hlast
    have HG:=Lc hg
    have HG1:=Lc hg1
    clear hg hg1
    refine Lj rfl (fun K1 hK1=>?_)
    have hK:=Lc hK1
    clear hK1
    go_wp2_with (go_at_call 158;refine(HAB.out _).mono ?_;rintro e1 W1 ⟨rfl,hb1⟩)
    refine hK.out _ _ ?_;exact fT
   |12,ho=>
    obtain rfl:=Le ho
    have hl11:=hdep ⟨11,.data⟩ (by simp) rfl
    obtain rfl:=F11.out hl11
    clear hdep
    have hlast:=HLi.out
    obtain⟨hg,hg1⟩:=HST.out hlast
    have HG:=Lc hg
    have HG1:=Lc hg1
    clear hg hg1
    refine Lj rfl (fun K1 hK1=>?_)
    have hK:=Lc hK1
    clear hK1
    refine aP rfl 193 (.tmp 6) (.tmp 28) rfl (w.heap.size+1) 0 #[.int .i64 (V).max,.int .i64 (((V).many:Nat):Int)] rfl rfl (bI HG1.out 0 2 (by simp)) Ci (LH (by simp[Value.oneCell'])) ?_
    refine hK.out _ _ ?_;exact fT
def ib (s:Ss) (lv n:Nat):Td:=gZ s (2 ^ (lv-1)) (lv-1-Md n) n
def ow (s:Ss):Nat:=Md s.cs.length+1
def BN (s:Ss):List Int:=(bM (ow s) 1).map fun n=>(ib s (ow s) n).max
def Bf (s:Ss):List Int:=(bM (ow s) 1).map fun n=>((ib s (ow s) n).many:Nat)
def si (lv:Nat) (P:Nat->Bool) (f:Nat->Int):List Int:=(bM lv 1).map fun n=>if P n=true then f n else 0
theorem kw (lv:Nat) (P:Nat->Bool) (f:Nat->Int) (h:1<=lv):(si lv P f).length=2 ^ lv-1:=by unfold si;rw[List.length_map,gN lv 1 h]
theorem ES:∀lv,lv<=7->1<=lv->(bM lv 1).Nodup:=by decide+kernel
def JE (lv:Nat):Bool:=(L8 (2 ^ lv-1)).all fun k=>(bM lv 1)[(gU lv).getD k 0]?==some (k+1)&&decide ((gU lv).getD k 0< 2 ^ lv-1)
theorem J6:∀lv,lv<=7->1<=lv->JE lv=true:=by decide+kernel
theorem zT {lv k:Nat} (h7:lv<=7) (h1:1<=lv) (hk:k< 2 ^ lv-1):(bM lv 1)[(gU lv).getD k 0]?=some (k+1)/\(gU lv).getD k 0< 2 ^ lv-1:=by
 have h:=J6 lv h7 h1
 unfold JE at h
 rw[MV]at h
 have:=h k (List.mem_range.2 hk)
 simpa using this
theorem Im {l:List Nat} (hn:l.Nodup) {f g:Nat->Int} {i n:Nat} (hi:l[i]?=some n) (hg:∀m,m≠n->g m=f m):(l.map f).set i (g n)=l.map g:=by
 apply NC
 intro j
 rw[List.getElem?_set,List.length_map,List.getElem?_map,List.getElem?_map]
 by_cases hij:i=j
 ·subst hij
  obtain⟨h1,h2⟩:=List.getElem?_eq_some_iff.1 hi
  rw[if_pos rfl,if_pos h1,hi];rfl
 ·rw[if_neg hij]
  cases hj:l[j]? with
  |none=>rfl
  |some m=>
   have hm:m≠n:=fun e=>by
    subst e
    obtain⟨h1,h2⟩:=List.getElem?_eq_some_iff.1 hi
    obtain⟨h3,h4⟩:=List.getElem?_eq_some_iff.1 hj
    exact hij ((List.getElem_inj hn).1 (h2.trans h4.symm))
   simp[hg m hm]
theorem qL {lv k:Nat} (h7:lv<=7) (h1:1<=lv) (hk:k< 2 ^ lv-1) (P Q:Nat->Bool) (f:Nat->Int) (hq:Q (k+1)=true) (hpq:∀m,m≠k+1->Q m=P m):(si lv P f).set ((gU lv).getD k 0) (f (k+1))=si lv Q f:=by
 unfold si
 have h:=Im (ES lv h7 h1) (f:=fun n=>if P n=true then f n else 0) (g:=fun n=>if Q n=true then f n else 0) (zT h7 h1 hk).1 (fun m hm=>by rw[hpq m hm])
 simp only[hq,if_true]at h
 exact h
theorem qU {lv:Nat} (h7:lv<=7) (h1:1<=lv) (P:Nat->Bool) (f:Nat->Int) (hp:∀m,1<=m->m<=2 ^ lv-1->P m=true):si lv P f=(bM lv 1).map f:=by
 unfold si
 apply List.map_congr_left
 intro n hn
 have h:=Bp lv h7 h1
 rw[MV]at h
 have:=h n hn
 simp at this
 rw[hp n this.1 this.2];rfl
theorem nW (lv:Nat) (h1:1<=lv) (P:Nat->Bool) (f:Nat->Int) (hp:∀m,P m=false):si lv P f=List.replicate (2 ^ lv-1) 0:=by
 unfold si
 apply List.ext_getElem
 ·rw[List.length_map,List.length_replicate,gN lv 1 h1]
 ·intro i h2 h3
  rw[List.getElem_map,List.getElem_replicate,hp]
  rfl
def Ha (lv:Nat):Bool:=(L8 (2 ^ lv)).all fun n=>n==0||(decide (2 ^ (lv-1)<=n*2 ^ (lv-1-Md n))&&decide ((n+1)*2 ^ (lv-1-Md n)<=2*2 ^ (lv-1))&&(decide (2 ^ (lv-1)<=n)==decide (lv-1-Md n=0))&&(decide (2 ^ (lv-1)<=n)||(decide (lv-1-Md n=(lv-1-Md (2*n))+1)&&decide (Md (2*n+1)=Md (2*n)))))
theorem Ih:∀lv,lv<=7->1<=lv->Ha lv=true:=by decide+kernel
structure NodeF (lv n:Nat):Prop where
 node:NodeH (2 ^ (lv-1)) (lv-1-Md n) n
 leaf:2 ^ (lv-1)<=n->lv-1-Md n=0
 up:n< 2 ^ (lv-1)->lv-1-Md n=(lv-1-Md (2*n))+1/\Md (2*n+1)=Md (2*n)
theorem xD {lv n:Nat} (h7:lv<=7) (h1:1<=lv) (hn1:1<=n) (hn:n< 2 ^ lv):NodeF lv n:=by
 have h:=Ih lv h7 h1
 unfold Ha at h
 rw[MV]at h
 have h2:=h n (List.mem_range.2 hn)
 have hz:(n==0)=false:=by simp;omega
 rw[hz,Bool.false_or]at h2
 simp only[LZ,decide_eq_true_eq,beq_iff_eq,Bool.or_eq_true]at h2
 obtain⟨⟨⟨h3,h4⟩,h5⟩,h6⟩:=h2
 refine⟨⟨h3,h4⟩,fun hl=>?_,fun hl=>?_⟩
 ·rw[decide_eq_true hl]at h5
  exact of_decide_eq_true h5.symm
 ·rcases h6 with h6|h6
  ·omega
  ·exact h6
theorem zS {s:Ss} {lv n:Nat} (k:NodeF lv n) (h:2 ^ (lv-1)<=n):ib s lv n=dH s (n-2 ^ (lv-1)):=by
 unfold ib
 rw[k.leaf h]
 rfl
theorem Fx {s:Ss} {lv n:Nat} (k:NodeF lv n) (h:n< 2 ^ (lv-1)):ib s lv n=jC (ib s lv (2*n)) (ib s lv (2*n+1)):=by
 have h2:=k.up h
 unfold ib
 rw[h2.1,h2.2]
 rfl
theorem G5 (s:Ss) (lv n:Nat) (h7:lv<=7) (hG:s.seg.toNat<=64):(ib s lv n).many<=4096:=by
 unfold ib
 refine Lt (kP s _ _ n) ?_
 exact M0 (LQ (n:=2) (j:=6) (by decide) (by omega)) hG
structure TreeN (s:Ss) (lv N F:Nat):Prop where
 hlv:ow s=lv
 l1:1<=lv
 l7:lv<=7
 hn:2 ^ lv-1=N
 hf:2 ^ (lv-1)=F
 hd:s.cs.length=F
 nf:N+1=2*F
theorem qZ {s:Ss} (h:bB s=true) (ho:SsOk s):TreeN s (ow s) (2 ^ ow s-1) s.cs.length:=by
 have hf:=dJ h
 have hp:pow2 (s.ks.length/s.seg.toNat)=true:=by
  have:=hf.2.2.1
  unfold eF at this
  simp only[LZ]at this
  exact this.2
 rw[<-hf.2.2.2]at hp
 unfold pow2 at hp
 simp only[LZ,decide_eq_true_eq]at hp
 have hl:ow s-1=Md s.cs.length:=by unfold ow;omega
 have hsg:=fC h
 have hD:s.cs.length<=75:=by
  have h1:=hsg.kl
  have h2:=ho.kl
  have h3:=hsg.g4
  have h4:4*s.cs.length<=s.seg.toNat*s.cs.length:=Mg _ h3
  omega
 have h6:Md s.cs.length<=6:=by
  by_cases hc:Md s.cs.length<=6
  ·exact hc
  ·have h2:2 ^ 7<=2 ^ Md s.cs.length:=LQ (n:=2) (by decide) (by omega)
   omega
 have hF:2 ^ (ow s-1)=s.cs.length:=by rw[hl];exact hp.2
 refine⟨rfl,by unfold ow;omega,by unfold ow;omega,rfl,hF,rfl,?_⟩
 have h3:2 ^ ow s=2*2 ^ (ow s-1):=by rw[Mk,<-M8];congr 1
 have h4:=M6 (ow s)
 rw[hF]at h3
 omega
end Go.Proofs.YtpbmbjjfdpkhbaaGreat
