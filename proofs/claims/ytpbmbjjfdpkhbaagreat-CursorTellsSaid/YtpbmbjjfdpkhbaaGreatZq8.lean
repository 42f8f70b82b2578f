/- part of the proof -/
import Derived.RangeFuncOwn
import Derived.RangeFuncLeaves
import Derived.OwnWalkIn
import Derived.TacticsInMore
import Derived.LoopIn
import Derived.LoopNIn
import Derived.Test.YtpbmbjjfdpkhbaaGreatZq7
import Derived.Test.YtpbmbjjfdpkhbaaGreatZq6
import Derived.BigQuiet
import Derived.Deep.QuietTactic
import Derived.Test.YtpbmbjjfdpkhbaaGreatZq4
import Derived.Test.YtpbmbjjfdpkhbaaGreatZq3
namespace Go.Proofs.YtpbmbjjfdpkhbaaGreat
open Go Go.RowKit
set_option linter.all false
set_option maxRecDepth 100000
set_option maxHeartbeats 32000000
open Go.Proofs.Tryz
open And renaming intro->Lr
open Below renaming refl->Lg
open Bool renaming false_ne_true->Ld
open Go renaming bodyPost_end->Nj,bodyPost_ret->Li,callsIn_of_wp_marks->Nv,results_none->Ms,wpOpIn_step->LU
open Go.Lib renaming hid->Lc
open Go.World renaming cell?_of_block->ME,ownsRow_nil->L6,putObj_heap_other->LA,size_alloc->Ls
open List renaming append_assoc->Ny,append_toArray->MP,cons_append->M4,getD_eq_getElem?_getD->LJ,getElem?_eq_getElem->Lu,mem_of_getElem?->Nr,nil_append->Ml,push_toArray->M3,size_toArray->LW
open Nat renaming le_refl->Lf,le_trans->Lt,reduceAdd->Me,reduceSub->Mf,zero_le->LC
open Option.some renaming inj->Le
section
open Go.Shelf
attribute [local go_sem] Oper.semAt_some
theorem rO (s:Ss) (f n:Nat):mh s f (n+1)=mh s f n++(if fu s.ws (f+n)=1 then[Ab s (f+n)]else[]):=by
 unfold mh
 rw[p9,List.map_append]
 congr 1
 split <;> rfl
theorem Cz (s:Ss) (f:Nat):∀(m n:Nat),∃r,mh s f (n+m)=mh s f n++r
 |0,n=>⟨[],by simp⟩
 |m+1,n=>by
  obtain⟨r,hr⟩:=Cz s f m n
  exact⟨r++_,by rw[<-Nat.add_assoc,rO,hr,Ny]⟩
theorem Ka (s:Ss) (f n i:Nat) (hi:i< n) (hb:fu s.ws (f+i)=1):(mh s f i).length< (mh s f n).length/\(mh s f n).getD (mh s f i).length ⟨0,0⟩=Ab s (f+i)/\(mh s f (i+1)).length=(mh s f i).length+1:=by
 obtain⟨m,rfl⟩:∃m,n=(i+1)+m:=⟨n-(i+1),by omega⟩
 obtain⟨r,hr⟩:=Cz s f m (i+1)
 have h1:=rO s f i
 rw[if_pos hb]at h1
 rw[hr,h1]
 refine⟨by simp,?_,by simp⟩
 simp[LJ,Ny]
theorem IP (s:Ss) (f i:Nat) (hb:¬fu s.ws (f+i)=1):(mh s f (i+1)).length=(mh s f i).length:=by
 rw[rO,if_neg hb,List.append_nil]
theorem dK {P:Prop} (h:P:=by
  iterate 19 apply Exists.intro
  refine⟨rfl,?_,?_,?_,?_,?_,?_,?_,?_,?_,?_,?_,?_,?_,?_,?_,?_,?_,?_,?_,?_,?_,?_,?_,?_,?_,?_,?_,?_,?_,?_,?_,?_,?_,?_,?_,?_,?_⟩
  ·first|exact HW.out|exact fun _=>rfl|(intro h;refine absurd h ?_;simp;done;done)
  ·first|exact HY.out|exact fun _=>HPO.out|exact(fun h=>absurd (show L 15=true by simpa using h) (by rw[hlast];exact Ld))
  ·first|exact F0.out|exact fun _=>rfl
  ·first|exact F1.out|exact fun _=>rfl
  ·first|exact fun _=>rfl|exact F2.out
  ·first|exact F3.out|exact fun _=>rfl
  ·first|exact F4.out|exact fun _=>rfl
  ·first|exact F5.out|exact fun _=>rfl
  ·first|exact F6.out|exact fun _=>rfl
  ·first|exact F7.out|exact fun _=>rfl
  ·first|exact F8.out|exact fun _=>rfl
  ·first|exact F9.out|exact fun _=>rfl
  ·first|exact F10.out|exact fun _=>rfl
  ·first|exact F11.out|exact fun _=>rfl
  ·first|exact F12.out|exact fun _=>rfl
  ·first|exact F13.out|exact fun _=>rfl
  ·first|exact F14.out|exact fun _=>rfl
  ·first|exact F15.out|exact fun _=>rfl
  ·first|exact F16.out|exact fun _=>rfl|exact(fun h=>absurd (show L 16=true by simpa using h) (by intro h;exact absurd ((C16.out h).1) (by rw[HLi.out];exact Ld)))
  ·first|exact F17.out|exact fun _=>rfl|exact(fun h=>absurd (show L 17=true by simpa using h) (by intro h;exact absurd ((C16.out (C17.out h).2).1) (by rw[HLi.out];exact Ld)))
  ·first|(intro h;have hh:=C1.out (by simpa using h);simp[hh];done)|(intro _;simp[hl0];done)
  ·first|(intro h;have hh:=C2.out (by simpa using h);simp[hh];done)|(intro _;simp[hl1];done)
  ·first|(intro h;have hh:=C3.out (by simpa using h);simp[hh];done)|(intro _;simp[hl2];done)
  ·first|(intro h;have hh:=C4.out (by simpa using h);simp[hh];done)|(intro _;simp[hl2];done)
  ·first|(intro h;have hh:=C5.out (by simpa using h);simp[hh];done)|(intro _;simp[hl4,hl2];done)
  ·first|(intro h;have hh:=C6.out (by simpa using h);simp[hh];done)|(intro _;simp[hl2];done)
  ·first|(intro h;have hh:=C7.out (by simpa using h);simp[hh];done)|(intro _;simp[hl5,hl6,hl2];done)
  ·first|(intro h;have hh:=C8.out (by simpa using h);simp[hh];done)|(intro _;simp[hl7,hl2];done)
  ·first|(intro h;have hh:=C9.out (by simpa using h);simp[hh];done)|(intro _;simp[hl2];done)
  ·first|(intro h;have hh:=C10.out (by simpa using h);simp[hh];done)|(intro _;simp[hl9,hl2];done)
  ·first|(intro h;have hh:=C11.out (by simpa using h);simp[hh];done)|(intro _;simp[hl2];done)
  ·first|(intro h;have hh:=C12.out (by simpa using h);simp[hh];done)|(intro _;simp[hl10,hl11,hl2];done)
  ·first|(intro h;have hh:=C13.out (by simpa using h);simp[hh];done)|(intro _;simp[hl12,hl2];done)
  ·first|(intro h;have hh:=C14.out (by simpa using h);simp[hh];done)|(intro _;simp[hl8,hl13,hl2];done)
  ·first|(intro h;have hh:=C15.out (by simpa using h);simp[hh];done)|(intro _;simp[hl3,hl14,hl2];done)
  ·first|(intro h;have hh:=C16.out (by simpa using h);simp[hh];done)|(intro _;simp[hl15,hl2];done)
  ·first|(intro h;have hh:=C17.out (by simpa using h);simp[hh];done)|(intro _;simp[hl2,hl16];done)):P:=h
theorem dL {P:Prop} (h:P:=by
  iterate 18 apply Exists.intro
  refine⟨rfl,?_,?_,?_,?_,?_,?_,?_,?_,?_,?_,?_,?_,?_,?_,?_,?_,?_,?_,?_,?_,?_,?_⟩
  ·first|exact HW.out|exact rfl
  ·first|exact F0.out|exact fun _=>rfl
  ·first|exact F1.out|exact fun _=>rfl
  ·first|exact fun _=>rfl|exact F2.out
  ·first|exact F17.out|exact fun _=>rfl
  ·first|(intro h;have hh:=C1.out (by simpa using h);simp[hh];done)|(intro _;simp[hl0];done)
  ·first|(intro h;have hh:=C2.out (by simpa using h);simp[hh];done)|(intro _;simp[hl1];done)
  ·first|(intro h;have hh:=C3.out (by simpa using h);simp[hh];done)|(intro _;simp[hl2];done)
  ·first|(intro h;have hh:=C4.out (by simpa using h);simp[hh];done)|(intro _;simp[hl2];done)
  ·first|(intro h;have hh:=C5.out (by simpa using h);simp[hh];done)|(intro _;simp[hl2];done)
  ·first|(intro h;have hh:=C6.out (by simpa using h);simp[hh];done)|(intro _;simp[hl2];done)
  ·first|(intro h;have hh:=C7.out (by simpa using h);simp[hh];done)|(intro _;simp[hl2];done)
  ·first|(intro h;have hh:=C8.out (by simpa using h);simp[hh];done)|(intro _;simp[hl2];done)
  ·first|(intro h;have hh:=C9.out (by simpa using h);simp[hh];done)|(intro _;simp[hl2];done)
  ·first|(intro h;have hh:=C10.out (by simpa using h);simp[hh];done)|(intro _;simp[hl2];done)
  ·first|(intro h;have hh:=C11.out (by simpa using h);simp[hh];done)|(intro _;simp[hl2];done)
  ·first|(intro h;have hh:=C12.out (by simpa using h);simp[hh];done)|(intro _;simp[hl2];done)
  ·first|(intro h;have hh:=C13.out (by simpa using h);simp[hh];done)|(intro _;simp[hl2];done)
  ·first|(intro h;have hh:=C14.out (by simpa using h);simp[hh];done)|(intro _;simp[hl2];done)
  ·first|(intro h;have hh:=C15.out (by simpa using h);simp[hh];done)|(intro _;simp[hl2];done)
  ·first|(intro h;have hh:=C16.out (by simpa using h);simp[hh];done)|(intro _;simp[hl2];done)
  ·first|(intro h;have hh:=C17.out (by simpa using h);simp[hh];done)|(intro _;simp[hl2];done)):P:=h
theorem Iz (B1 B2 B3:Nat) (s:Ss) (f n:Nat) (w:World) (hp:PrAt w B1 B2 B3 s f (f+n)) (ho:SsOk s) (hv:s.vs.length=s.ks.length) (hn:f+n<=s.ks.length) (hw:f+n<=64*s.ws.length):
  Yields Fence.wide prog 218 #[.pointer (some ⟨B1,0,none⟩),.pointer (some ⟨B2,0,none⟩),.pointer (some ⟨B3,0,none⟩)] (mh s f n).length (KQ s f n) (Jb B1 B2 B3 s) (fun _=>False) w:=by
 intro y I X W hsz hKp hI hX hY h0
 have hpW:=hp.of hsz hKp
 have hdd:∀k:Nat,(Fence.wide.depth.isSome=true->1<=k):=fun k h=>by cases h
 have hwf:∀f,Fence.wide.fn f:=fun _=>trivial
 have hdp:Fence.wide.depth=none:=rfl
 have hro:Fence.wide.round=none:=rfl
 have HH:=Lc (Lr hI (Lr hX hY))
 have HP:=Lc hpW
 have HN:=Lc (Lr ho (Lr hv (Lr hn hw)))
 obtain⟨T,hT⟩:∃T,f+n=T:=⟨_,rfl⟩
 have HT:=Lc hT
 have c1:W.cell? ⟨B1,0,none⟩=some (.int .i64 (f:Nat)):=hpW.c1.cell 0
 rw[hT]at HP
 clear hI hX hY hKp hp hpW ho hv hn hw hT
 refine callsIn_of_wp func218 rfl (hwf _) ?_ hro
 simp only[ntmps218,LW,List.length_cons,List.length_nil,Me,Mf,Array.replicate_succ,Array.replicate_zero,M3,MP,Ml,M4]
 gi_wp2
 gi_loopw [5] (fun e wr=>∃i k:Nat,i<=n/\e= .int .i64 ((f+i:Nat):Int)/\Hid (k=(mh s f i).length)/\I k wr/\Hid (PrAt wr B1 B2 B3 s f T)) (fun e _=>T-(intOf e).toNat)
 case atStart=>exact⟨0,0,LC _,rfl,rfl,h0,HP.out⟩
 case round=>
  clear h0 c1
  obtain⟨i,k,hi,rfl,hk,hik,hpa⟩:=hrel
  have hp2:=hpa.out
  have d2:wr.cell? ⟨B2,0,none⟩=some (.int .i64 (T:Nat)):=hp2.c2.cell 0
  obtain⟨at0,hat⟩:∃a,f+i=a:=⟨_,rfl⟩
  rw[hat]
  by_cases hlt:i< n
  ·have i1:(at0:Int)< (T:Int):=by have:=HT.out;omega
   have d0:=hp2.c3.cell
   have HI:=Lc hik
   have HP2:=Lc hp2
   have HK:=Lc hk
   clear hp2 hik
   gi_wp2
   obtain⟨g,hg⟩:∃g,wr.heap.size=g:=⟨_,rfl⟩
   obtain⟨A,hA⟩:∃A,wr.alloc (.cells s.row 258)=A:=⟨_,rfl⟩
   have hm1:Mod (fun _=>False) wr A.drew:=by rw[<-hA];exact((Mod.refl _ _).alloc _).drew
   have bA:Blk A g 258 s.row:=by rw[<-hA,<-hg];exact Blk.new _ _ _
   have hAI:∀b,b< wr.heap.size->A.drew.heap[b]?=wr.heap[b]?:=fun b hb=>hm1.block b hb id
   have hpA:=HP2.out.of hm1.size (fun b hb=>hAI b (HP2.out.lt hb))
   have HIA:=Lc (HH.out.1 k wr A.drew HI.out hm1)
   rw[hg,hA]
   have hlt2:at0< s.ks.length:=by have:=HN.out.2.2.1;omega
   have hlt3:at0< s.vs.length:=by have:=HN.out.2.1;omega
   have his:=IK s.wA s.ws s.wc g at0 A.drew (bA.cell 1) hpA.sw HN.out.1.w64 HN.out.1.wl (by have:=HN.out.2.2.2;omega)
   have HKA:=Lc (show∀b,Jb B1 B2 B3 s b->A.drew.heap[b]?=wr.heap[b]? from fun b hb=>hAI b (HP2.out.lt hb))
   have HSA:=Lc (show wr.heap.size<=A.drew.heap.size from hm1.size)
   have HPA:=Lc hpA
   have hn9:at0<=300:=by have:=HN.out.1.kl;omega
   have HAT:=Lc hat
   by_cases hb:fu s.ws at0=1
   ·rw[decide_eq_true hb]at his
    have HIS:=Lc his
    obtain⟨h1,h2,h3⟩:=Ka s f n i hlt (by rw[hat];exact hb)
    obtain⟨b2,o2,e2,hbl2,k2⟩:=hpA.sk.one at0 hlt2
    obtain⟨b3,o3,e3,hbl3,k3⟩:=hpA.sv.one at0 hlt3
    have HKN:=Lc (show k< (mh s f n).length by rw[HK.out];exact h1)
    have HKP:=Lc (show(mh s f n).getD k ⟨0,0⟩=Ab s at0 by rw[HK.out,h2,hat])
    have HKS:=Lc h3
    have HQ:=Lc (show A.drew.cell? ⟨B3,2,none⟩=some (.slice (some ⟨b2,o2,none⟩) s.ks.length s.kc)/\A.drew.cell? ⟨b2,o2+at0,none⟩=some (.int .i64 (Ab s at0).key)/\A.drew.cell? ⟨B3,3,none⟩=some (.slice (some ⟨b3,o3,none⟩) s.vs.length s.vc)/\A.drew.cell? ⟨b3,o3+at0,none⟩=some (.int .i64 (Ab s at0).val)/\(at0:Int)< (s.ks.length:Int)/\(at0:Int)< (s.vs.length:Int)/\(0:Int)<=(at0:Int)from
     ⟨by rw[<-e2];exact hpA.c3.cell 2,by rw[k2];unfold Ab;simp[iv,LJ,Lu hlt2],by rw[<-e3];exact hpA.c3.cell 3,by rw[k3];unfold Ab;simp[iv,LJ,Lu hlt3],by omega,by omega,by omega⟩)
    clear h1 h2 h3 e2 e3 hbl2 hbl3 k2 k3 hb his bA hm1 hpA hA hAI hat hlt2 hlt3 d0 d2 i1 hg
    refine fK (by kernel_rfl) (by kernel_rfl) (fun L a W=>∃(t15 t16 t17 t18 t19 t20 t21 t22 t23 t24 t25 t26 t27 t28 t29 t30 t31 t32:Value) (bb:Bool),a=⟨#[.func (.yield y) #[] #[],.pointer (some ⟨B1,0,none⟩),.pointer (some ⟨B2,0,none⟩),.pointer (some ⟨B3,0,none⟩),undef,.int .i64 (at0:Nat),.pointer (some ⟨g,0,none⟩),.int .i64 (f:Nat),.int .i64 (at0:Nat),.int .i64 (T:Nat),.bool true,u11,u12,.agg s.row,.agg s.row,t15,t16,t17,t18,t19,t20,t21,t22,t23,t24,t25,t26,t27,t28,t29,t30,t31,t32],[]⟩/\(L 15=false->W=A.drew)/\(L 15=true->((bb=true/\I (k+1) W/\A.drew.heap.size<=W.heap.size/\∀q,Jb B1 B2 B3 s q->W.heap[q]?=A.drew.heap[q]?)∨(bb=false/\X W)))/\(L 0=true->t15= .int .i64 (at0:Nat))/\(L 1=true->t16= .bool true)/\(L 2=true->t17= .bool true)/\(L 3=true->t18= .func (.yield y) #[] #[])/\(L 4=true->t19= .pointer (some ⟨B3,2,none⟩))/\(L 5=true->t20= .slice (some ⟨b2,o2,none⟩) s.ks.length s.kc)/\(L 6=true->t21= .int .i64 (at0:Nat))/\(L 7=true->t22= .pointer (some ⟨b2,o2+at0,none⟩))/\(L 8=true->t23= .int .i64 (Ab s at0).key)/\(L 9=true->t24= .pointer (some ⟨B3,3,none⟩))/\(L 10=true->t25= .slice (some ⟨b3,o3,none⟩) s.vs.length s.vc)/\(L 11=true->t26= .int .i64 (at0:Nat))/\(L 12=true->t27= .pointer (some ⟨b3,o3+at0,none⟩))/\(L 13=true->t28= .int .i64 (Ab s at0).val)/\(L 14=true->t29= .agg #[.int .i64 (Ab s at0).key,.int .i64 (Ab s at0).val])/\(L 15=true->t30= .bool bb)/\(L 16=true->t31= .bool (!bb))/\(L 17=true->t32= .bool (!bb))/\(L 1=true->L 0=true)/\(L 2=true->L 1=true)/\(L 3=true->L 2=true)/\(L 4=true->L 2=true)/\(L 5=true->L 4=true/\L 2=true)/\(L 6=true->L 2=true)/\(L 7=true->L 5=true/\L 6=true/\L 2=true)/\(L 8=true->L 7=true/\L 2=true)/\(L 9=true->L 2=true)/\(L 10=true->L 9=true/\L 2=true)/\(L 11=true->L 2=true)/\(L 12=true->L 10=true/\L 11=true/\L 2=true)/\(L 13=true->L 12=true/\L 2=true)/\(L 14=true->L 8=true/\L 13=true/\L 2=true)/\(L 15=true->L 3=true/\L 14=true/\L 2=true)/\(L 16=true->L 15=true/\L 2=true)/\(L 17=true->L 2=true/\L 16=true)) ?h0 ?hstep ?hend
    case h0=>exact⟨u15,u16,u17,u18,u19,u20,u21,u22,u23,u24,u25,u26,u27,u28,u29,u30,u31,u32,true,rfl,fun _=>rfl,fun h=>absurd h Ld,fun h=>absurd h Ld,fun h=>absurd h Ld,fun h=>absurd h Ld,fun h=>absurd h Ld,fun h=>absurd h Ld,fun h=>absurd h Ld,fun h=>absurd h Ld,fun h=>absurd h Ld,fun h=>absurd h Ld,fun h=>absurd h Ld,fun h=>absurd h Ld,fun h=>absurd h Ld,fun h=>absurd h Ld,fun h=>absurd h Ld,fun h=>absurd h Ld,fun h=>absurd h Ld,fun h=>absurd h Ld,fun h=>absurd h Ld,fun h=>absurd h Ld,fun h=>absurd h Ld,fun h=>absurd h Ld,fun h=>absurd h Ld,fun h=>absurd h Ld,fun h=>absurd h Ld,fun h=>absurd h Ld,fun h=>absurd h Ld,fun h=>absurd h Ld,fun h=>absurd h Ld,fun h=>absurd h Ld,fun h=>absurd h Ld,fun h=>absurd h Ld,fun h=>absurd h Ld,fun h=>absurd h Ld,fun h=>absurd h Ld,fun h=>absurd h Ld⟩
    case hend=>
     rintro L a W hall ⟨t15,t16,t17,t18,t19,t20,t21,t22,t23,t24,t25,t26,t27,t28,t29,t30,t31,t32,bb,rfl,hw,hy,f0,f1,f2,f3,f4,f5,f6,f7,f8,f9,f10,f11,f12,f13,f14,f15,f16,f17,c1,c2,c3,c4,c5,c6,c7,c8,c9,c10,c11,c12,c13,c14,c15,c16,c17⟩
     have z0:=f0 (hall 0 (by decide))
     have z1:=f1 (hall 1 (by decide))
     have z2:=f2 (hall 2 (by decide))
     have z3:=f3 (hall 3 (by decide))
     have z4:=f4 (hall 4 (by decide))
     have z5:=f5 (hall 5 (by decide))
     have z6:=f6 (hall 6 (by decide))
     have z7:=f7 (hall 7 (by decide))
     have z8:=f8 (hall 8 (by decide))
     have z9:=f9 (hall 9 (by decide))
     have z10:=f10 (hall 10 (by decide))
     have z11:=f11 (hall 11 (by decide))
     have z12:=f12 (hall 12 (by decide))
     have z13:=f13 (hall 13 (by decide))
     have z14:=f14 (hall 14 (by decide))
     have z15:=f15 (hall 15 (by decide))
     have z16:=f16 (hall 16 (by decide))
     have z17:=f17 (hall 17 (by decide))
     have zy:=hy (hall 15 (by decide))
     clear hall hw hy f0 f1 f2 f3 f4 f5 f6 f7 f8 f9 f10 f11 f12 f13 f14 f15 f16 f17 c1 c2 c3 c4 c5 c6 c7 c8 c9 c10 c11 c12 c13 c14 c15 c16 c17
     obtain rfl:=z17
     rcases zy with⟨rfl,hi2,hs2,hk2⟩|⟨rfl,hx2⟩
     ·have HPB:=Lc (HPA.out.of hs2 hk2)
      have HI2:=Lc hi2
      clear hi2 hs2 hk2
      gi_wp2
      go_roundw
      case rel=>exact⟨i+1,k+1,by omega,by show _=_;have:=HAT.out;go_num,by show _=_;rw[HKS.out,HK.out],HI2.out,HPB.out⟩
      case measure=>have:=HAT.out;have:=HT.out;simp[intOf];omega
     ·have hx3:=hx2
      gi_wp2
      first|refine Li (Ms rfl _ _ _) rfl ?_|refine Nj (Ms rfl _ _ _) rfl ?_
      exact⟨⟨_,rfl⟩,.inr hx2⟩
    case hstep=>
     rintro L a W i o ho hLi hdep ⟨t15,t16,t17,t18,t19,t20,t21,t22,t23,t24,t25,t26,t27,t28,t29,t30,t31,t32,bb,rfl,hw,hy,f0,f1,f2,f3,f4,f5,f6,f7,f8,f9,f10,f11,f12,f13,f14,f15,f16,f17,c1,c2,c3,c4,c5,c6,c7,c8,c9,c10,c11,c12,c13,c14,c15,c16,c17⟩
     have HW:=Lc hw
     have HY:=Lc hy
     have F0:=Lc f0
     have F1:=Lc f1
     have F2:=Lc f2
     have F3:=Lc f3
     have F4:=Lc f4
     have F5:=Lc f5
     have F6:=Lc f6
     have F7:=Lc f7
     have F8:=Lc f8
     have F9:=Lc f9
     have F10:=Lc f10
     have F11:=Lc f11
     have F12:=Lc f12
     have F13:=Lc f13
     have F14:=Lc f14
     have F15:=Lc f15
     have F16:=Lc f16
     have F17:=Lc f17
     have C1:=Lc c1
     have C2:=Lc c2
     have C3:=Lc c3
     have C4:=Lc c4
     have C5:=Lc c5
     have C6:=Lc c6
     have C7:=Lc c7
     have C8:=Lc c8
     have C9:=Lc c9
     have C10:=Lc c10
     have C11:=Lc c11
     have C12:=Lc c12
     have C13:=Lc c13
     have C14:=Lc c14
     have C15:=Lc c15
     have C16:=Lc c16
     have C17:=Lc c17
     clear hw hy f0 f1 f2 f3 f4 f5 f6 f7 f8 f9 f10 f11 f12 f13 f14 f15 f16 f17 c1 c2 c3 c4 c5 c6 c7 c8 c9 c10 c11 c12 c13 c14 c15 c16 c17
     have HLi:=Lc hLi
     clear hLi
     match i,ho with
     |0,ho=>
      obtain rfl:=Le ho
      clear hdep
      refine LU rfl (fun K1 hK1=>?_)
      have hK:=Lc hK1
      clear hK1
      gi_wp2
      refine hK.out _ _ ?_;exact dK
     |1,ho=>
      obtain rfl:=Le ho
      have hl0:=hdep ⟨0,.data⟩ (by simp) rfl
      obtain rfl:=F0.out hl0
      clear hdep
      have hlast:L 15=false:=by
       cases h:L 15 with
       |false=>rfl
       |true=>exact absurd ((C2.out (C15.out h).2.2)) (by rw[HLi.out];exact Ld)
      have hWA:=HW.out hlast
      subst hWA
      refine LU rfl (fun K1 hK1=>?_)
      have hK:=Lc hK1
      clear hK1
      have his:=HIS.out
      gi_wp2_with ((try first|refine⟨hdp,?_⟩|refine⟨hdd _,?_⟩);gi_at_call 219;refine(callsIn_wide.2 his).mono ?_;rintro e w1 ⟨rfl,hw1⟩)
      subst hw1
      refine hK.out _ _ ?_;exact dK
     |2,ho=>
      obtain rfl:=Le ho
      have hl1:=hdep ⟨1,.data⟩ (by simp) rfl
      obtain rfl:=F1.out hl1
      clear hdep
      refine LU rfl (fun K1 hK1=>?_)
      have hK:=Lc hK1
      clear hK1
      gi_wp2
      refine hK.out _ _ ?_;exact dK
     |3,ho=>
      obtain rfl:=Le ho
      have hl2:=hdep ⟨2,.guard⟩ (by simp) rfl
      obtain rfl:=F2.out hl2
      clear hdep
      refine LU rfl (fun K1 hK1=>?_)
      have hK:=Lc hK1
      clear hK1
      gi_wp2
      refine hK.out _ _ ?_;exact dK
     |4,ho=>
      obtain rfl:=Le ho
      have hl2:=hdep ⟨2,.guard⟩ (by simp) rfl
      obtain rfl:=F2.out hl2
      clear hdep
      refine LU rfl (fun K1 hK1=>?_)
      have hK:=Lc hK1
      clear hK1
      gi_wp2
      refine hK.out _ _ ?_;exact dK
     |5,ho=>
      obtain rfl:=Le ho
      have hl4:=hdep ⟨4,.data⟩ (by simp) rfl
      obtain rfl:=F4.out hl4
      have hl2:=hdep ⟨2,.guard⟩ (by simp) rfl
      obtain rfl:=F2.out hl2
      clear hdep
      have hlast:L 15=false:=by
       cases h:L 15 with
       |false=>rfl
       |true=>exact absurd ((C7.out (C8.out (C14.out (C15.out h).2.1).1).1).1) (by rw[HLi.out];exact Ld)
      have hWA:=HW.out hlast
      subst hWA
      refine LU rfl (fun K1 hK1=>?_)
      have hK:=Lc hK1
      clear hK1
      have q:=HQ.out.1
      gi_wp2
      refine hK.out _ _ ?_;exact dK
     |6,ho=>
      obtain rfl:=Le ho
      have hl2:=hdep ⟨2,.guard⟩ (by simp) rfl
      obtain rfl:=F2.out hl2
      clear hdep
      refine LU rfl (fun K1 hK1=>?_)
      have hK:=Lc hK1
      clear hK1
      gi_wp2
      refine hK.out _ _ ?_;exact dK
     |7,ho=>
      obtain rfl:=Le ho
      have hl5:=hdep ⟨5,.data⟩ (by simp) rfl
      obtain rfl:=F5.out hl5
      have hl6:=hdep ⟨6,.data⟩ (by simp) rfl
      obtain rfl:=F6.out hl6
      have hl2:=hdep ⟨2,.guard⟩ (by simp) rfl
      obtain rfl:=F2.out hl2
      clear hdep
      refine LU rfl (fun K1 hK1=>?_)
      have hK:=Lc hK1
      clear hK1
      have q:=HQ.out.2.2.2.2.1
      have q9:=HQ.out.2.2.2.2.2.2
      gi_wp2
      refine hK.out _ _ ?_;exact dK
     |8,ho=>
      obtain rfl:=Le ho
      have hl7:=hdep ⟨7,.data⟩ (by simp) rfl
      obtain rfl:=F7.out hl7
      have hl2:=hdep ⟨2,.guard⟩ (by simp) rfl
      obtain rfl:=F2.out hl2
      clear hdep
      have hlast:L 15=false:=by
       cases h:L 15 with
       |false=>rfl
       |true=>exact absurd ((C14.out (C15.out h).2.1).1) (by rw[HLi.out];exact Ld)
      have hWA:=HW.out hlast
      subst hWA
      refine LU rfl (fun K1 hK1=>?_)
      have hK:=Lc hK1
      clear hK1
      have q:=HQ.out.2.1
      gi_wp2
      refine hK.out _ _ ?_;exact dK
     |9,ho=>
      obtain rfl:=Le ho
      have hl2:=hdep ⟨2,.guard⟩ (by simp) rfl
      obtain rfl:=F2.out hl2
      clear hdep
      refine LU rfl (fun K1 hK1=>?_)
      have hK:=Lc hK1
      clear hK1
      gi_wp2
      refine hK.out _ _ ?_;exact dK
     |10,ho=>
      obtain rfl:=Le ho
      have hl9:=hdep ⟨9,.data⟩ (by simp) rfl
      obtain rfl:=F9.out hl9
      have hl2:=hdep ⟨2,.guard⟩ (by simp) rfl
      obtain rfl:=F2.out hl2
      clear hdep
      have hlast:L 15=false:=by
       cases h:L 15 with
       |false=>rfl
       |true=>exact absurd ((C12.out (C13.out (C14.out (C15.out h).2.1).2.1).1).1) (by rw[HLi.out];exact Ld)
      have hWA:=HW.out hlast
      subst hWA
      refine LU rfl (fun K1 hK1=>?_)
      have hK:=Lc hK1
      clear hK1
      have q:=HQ.out.2.2.1
      gi_wp2
      refine hK.out _ _ ?_;exact dK
     |11,ho=>
      obtain rfl:=Le ho
      have hl2:=hdep ⟨2,.guard⟩ (by simp) rfl
      obtain rfl:=F2.out hl2
      clear hdep
      refine LU rfl (fun K1 hK1=>?_)
      have hK:=Lc hK1
      clear hK1
      gi_wp2
      refine hK.out _ _ ?_;exact dK
     |12,ho=>
      obtain rfl:=Le ho
      have hl10:=hdep ⟨10,.data⟩ (by simp) rfl
      obtain rfl:=F10.out hl10
      have hl11:=hdep ⟨11,.data⟩ (by simp) rfl
      obtain rfl:=F11.out hl11
      have hl2:=hdep ⟨2,.guard⟩ (by simp) rfl
      obtain rfl:=F2.out hl2
      clear hdep
      refine LU rfl (fun K1 hK1=>?_)
      have hK:=Lc hK1
      clear hK1
      have q:=HQ.out.2.2.2.2.2.1
      have q9:=HQ.out.2.2.2.2.2.2
      gi_wp2
      refine hK.out _ _ ?_;exact dK
     |13,ho=>
      obtain rfl:=Le ho
      have hl12:=hdep ⟨12,.data⟩ (by simp) rfl
      obtain rfl:=F12.out hl12
      have hl2:=hdep ⟨2,.guard⟩ (by simp) rfl
      obtain rfl:=F2.out hl2
      clear hdep
      have hlast:L 15=false:=by
       cases h:L 15 with
       |false=>rfl
       |true=>exact absurd ((C14.out (C15.out h).2.1).2.1) (by rw[HLi.out];exact Ld)
      have hWA:=HW.out hlast
      subst hWA
      refine LU rfl (fun K1 hK1=>?_)
      have hK:=Lc hK1
      clear hK1
      have q:=HQ.out.2.2.2.1
      gi_wp2
      refine hK.out _ _ ?_;exact dK
     |14,ho=>
      obtain rfl:=Le ho
      have hl8:=hdep ⟨8,.data⟩ (by simp) rfl
      obtain rfl:=F8.out hl8
      have hl13:=hdep ⟨13,.data⟩ (by simp) rfl
      obtain rfl:=F13.out hl13
      have hl2:=hdep ⟨2,.guard⟩ (by simp) rfl
      obtain rfl:=F2.out hl2
      clear hdep
      refine LU rfl (fun K1 hK1=>?_)
      have hK:=Lc hK1
      clear hK1
      gi_wp2
      refine hK.out _ _ ?_;exact dK
     |15,ho=>
      obtain rfl:=Le ho
      have hl3:=hdep ⟨3,.data⟩ (by simp) rfl
      obtain rfl:=F3.out hl3
      have hl14:=hdep ⟨14,.data⟩ (by simp) rfl
      obtain rfl:=F14.out hl14
      have hl2:=hdep ⟨2,.guard⟩ (by simp) rfl
      obtain rfl:=F2.out hl2
      clear hdep
      have hlast:=HLi.out
      have hWA:=HW.out hlast
      subst hWA
      refine LU rfl (fun K1 hK1=>?_)
      have hK:=Lc hK1
      clear hK1
      have hY':=HH.out.2.2 k A.drew HKN.out HIA.out
      unfold KQ at hY'
      rw[HKP.out]at hY'
      obtain⟨fn,tmps,assign,body,hy,hR⟩:=hY'
      have HRR:=Lc hR
      clear hR
      gi_wp2
      refine HRR.out.mono ?_
      clear HRR hy
      intro e W2 hpost
      obtain⟨b',hb',hpo2⟩:∃b':Bool,e= .returned (.bool b')/\((b'=true/\I (k+1) W2/\A.drew.heap.size<=W2.heap.size/\∀q,Jb B1 B2 B3 s q->W2.heap[q]?=A.drew.heap[q]?)∨(b'=false/\X W2)):=by
       rcases hpost with⟨rfl,h1,h2,h3⟩|⟨rfl,h1⟩
       ·exact⟨true,rfl,.inl ⟨rfl,h1,h2,h3⟩⟩
       ·exact⟨false,rfl,.inr ⟨rfl,h1⟩⟩
      subst hb'
      have HPO:=Lc hpo2
      clear hpo2
      gi_wp2
      refine hK.out _ _ ?_;exact dK
     |16,ho=>
      obtain rfl:=Le ho
      have hl15:=hdep ⟨15,.data⟩ (by simp) rfl
      obtain rfl:=F15.out hl15
      have hl2:=hdep ⟨2,.guard⟩ (by simp) rfl
      obtain rfl:=F2.out hl2
      clear hdep
      refine LU rfl (fun K1 hK1=>?_)
      have hK:=Lc hK1
      clear hK1
      gi_wp2
      refine hK.out _ _ ?_;exact dK
     |17,ho=>
      obtain rfl:=Le ho
      have hl2:=hdep ⟨2,.data⟩ (by simp) rfl
      obtain rfl:=F2.out hl2
      have hl16:=hdep ⟨16,.data⟩ (by simp) rfl
      obtain rfl:=F16.out hl16
      clear hdep
      refine LU rfl (fun K1 hK1=>?_)
      have hK:=Lc hK1
      clear hK1
      gi_wp2
      refine hK.out _ _ ?_;exact dK
   ·rw[decide_eq_false hb]at his
    have HIS:=Lc his
    have HKS:=Lc (IP s f i (by rw[hat];exact hb))
    clear hb his bA hm1 hpA hA hAI hat hlt2 hlt3 d0 d2 i1 hg
    refine fK (by kernel_rfl) (by kernel_rfl) (fun L a W=>∃(t15 t16 t17 t18 t19 t20 t21 t22 t23 t24 t25 t26 t27 t28 t29 t30 t31 t32:Value),a=⟨#[.func (.yield y) #[] #[],.pointer (some ⟨B1,0,none⟩),.pointer (some ⟨B2,0,none⟩),.pointer (some ⟨B3,0,none⟩),undef,.int .i64 (at0:Nat),.pointer (some ⟨g,0,none⟩),.int .i64 (f:Nat),.int .i64 (at0:Nat),.int .i64 (T:Nat),.bool true,u11,u12,.agg s.row,.agg s.row,t15,t16,t17,t18,t19,t20,t21,t22,t23,t24,t25,t26,t27,t28,t29,t30,t31,t32],[]⟩/\W=A.drew/\(L 0=true->t15= .int .i64 (at0:Nat))/\(L 1=true->t16= .bool false)/\(L 2=true->t17= .bool false)/\(L 17=true->t32= .bool false)/\(L 1=true->L 0=true)/\(L 2=true->L 1=true)/\(L 3=true->L 2=true)/\(L 4=true->L 2=true)/\(L 5=true->L 2=true)/\(L 6=true->L 2=true)/\(L 7=true->L 2=true)/\(L 8=true->L 2=true)/\(L 9=true->L 2=true)/\(L 10=true->L 2=true)/\(L 11=true->L 2=true)/\(L 12=true->L 2=true)/\(L 13=true->L 2=true)/\(L 14=true->L 2=true)/\(L 15=true->L 2=true)/\(L 16=true->L 2=true)/\(L 17=true->L 2=true)) ?h0 ?hstep ?hend
    case h0=>exact⟨u15,u16,u17,u18,u19,u20,u21,u22,u23,u24,u25,u26,u27,u28,u29,u30,u31,u32,rfl,rfl,fun h=>absurd h Ld,fun h=>absurd h Ld,fun h=>absurd h Ld,fun h=>absurd h Ld,fun h=>absurd h Ld,fun h=>absurd h Ld,fun h=>absurd h Ld,fun h=>absurd h Ld,fun h=>absurd h Ld,fun h=>absurd h Ld,fun h=>absurd h Ld,fun h=>absurd h Ld,fun h=>absurd h Ld,fun h=>absurd h Ld,fun h=>absurd h Ld,fun h=>absurd h Ld,fun h=>absurd h Ld,fun h=>absurd h Ld,fun h=>absurd h Ld,fun h=>absurd h Ld,fun h=>absurd h Ld⟩
    case hend=>
     rintro L a W hall ⟨t15,t16,t17,t18,t19,t20,t21,t22,t23,t24,t25,t26,t27,t28,t29,t30,t31,t32,rfl,hw,f0,f1,f2,f17,c1,c2,c3,c4,c5,c6,c7,c8,c9,c10,c11,c12,c13,c14,c15,c16,c17⟩
     have z0:=f0 (hall 0 (by decide))
     have z1:=f1 (hall 1 (by decide))
     have z2:=f2 (hall 2 (by decide))
     have z17:=f17 (hall 17 (by decide))
     clear hall f0 f1 f2 f17 c1 c2 c3 c4 c5 c6 c7 c8 c9 c10 c11 c12 c13 c14 c15 c16 c17
     obtain rfl:=z17
     have hWA:=hw
     subst hWA
     gi_wp2
     go_roundw
     case rel=>exact⟨i+1,k,by omega,by show _=_;have:=HAT.out;go_num,by show _=_;rw[HKS.out];exact HK.out,HIA.out,HPA.out⟩
     case measure=>have:=HAT.out;have:=HT.out;simp[intOf];omega
    case hstep=>
     rintro L a W i o ho hLi hdep ⟨t15,t16,t17,t18,t19,t20,t21,t22,t23,t24,t25,t26,t27,t28,t29,t30,t31,t32,rfl,hw,f0,f1,f2,f17,c1,c2,c3,c4,c5,c6,c7,c8,c9,c10,c11,c12,c13,c14,c15,c16,c17⟩
     have HW:=Lc hw
     have F0:=Lc f0
     have F1:=Lc f1
     have F2:=Lc f2
     have F17:=Lc f17
     have C1:=Lc c1
     have C2:=Lc c2
     have C3:=Lc c3
     have C4:=Lc c4
     have C5:=Lc c5
     have C6:=Lc c6
     have C7:=Lc c7
     have C8:=Lc c8
     have C9:=Lc c9
     have C10:=Lc c10
     have C11:=Lc c11
     have C12:=Lc c12
     have C13:=Lc c13
     have C14:=Lc c14
     have C15:=Lc c15
     have C16:=Lc c16
     have C17:=Lc c17
     clear hw f0 f1 f2 f17 c1 c2 c3 c4 c5 c6 c7 c8 c9 c10 c11 c12 c13 c14 c15 c16 c17
     have HLi:=Lc hLi
     clear hLi
     match i,ho with
     |0,ho=>
      obtain rfl:=Le ho
      clear hdep
      refine LU rfl (fun K1 hK1=>?_)
      have hK:=Lc hK1
      clear hK1
      gi_wp2
      refine hK.out _ _ ?_;exact dL
     |1,ho=>
      obtain rfl:=Le ho
      have hl0:=hdep ⟨0,.data⟩ (by simp) rfl
      obtain rfl:=F0.out hl0
      clear hdep
      have hWA:=HW.out
      subst hWA
      refine LU rfl (fun K1 hK1=>?_)
      have hK:=Lc hK1
      clear hK1
      have his:=HIS.out
      gi_wp2_with ((try first|refine⟨hdp,?_⟩|refine⟨hdd _,?_⟩);gi_at_call 219;refine(callsIn_wide.2 his).mono ?_;rintro e w1 ⟨rfl,hw1⟩)
      subst hw1
      refine hK.out _ _ ?_;exact dL
     |2,ho=>
      obtain rfl:=Le ho
      have hl1:=hdep ⟨1,.data⟩ (by simp) rfl
      obtain rfl:=F1.out hl1
      clear hdep
      refine LU rfl (fun K1 hK1=>?_)
      have hK:=Lc hK1
      clear hK1
      gi_wp2
      refine hK.out _ _ ?_;exact dL
     |3,ho=>
      obtain rfl:=Le ho
      have hl2:=hdep ⟨2,.guard⟩ (by simp) rfl
      obtain rfl:=F2.out hl2
      clear hdep
      refine LU rfl (fun K1 hK1=>?_)
      have hK:=Lc hK1
      clear hK1
      gi_wp2
      refine hK.out _ _ ?_;exact dL
     |4,ho=>
      obtain rfl:=Le ho
      have hl2:=hdep ⟨2,.guard⟩ (by simp) rfl
      obtain rfl:=F2.out hl2
      clear hdep
      refine LU rfl (fun K1 hK1=>?_)
      have hK:=Lc hK1
      clear hK1
      gi_wp2
      refine hK.out _ _ ?_;exact dL
     |5,ho=>
      obtain rfl:=Le ho
      have hl2:=hdep ⟨2,.guard⟩ (by simp) rfl
      obtain rfl:=F2.out hl2
      clear hdep
      refine LU rfl (fun K1 hK1=>?_)
      have hK:=Lc hK1
      clear hK1
      gi_wp2
      refine hK.out _ _ ?_;exact dL
     |6,ho=>
      obtain rfl:=Le ho
      have hl2:=hdep ⟨2,.guard⟩ (by simp) rfl
      obtain rfl:=F2.out hl2
      clear hdep
      refine LU rfl (fun K1 hK1=>?_)
      have hK:=Lc hK1
      clear hK1
      gi_wp2
      refine hK.out _ _ ?_;exact dL
     |7,ho=>
      obtain rfl:=Le ho
      have hl2:=hdep ⟨2,.guard⟩ (by simp) rfl
      obtain rfl:=F2.out hl2
      clear hdep
      refine LU rfl (fun K1 hK1=>?_)
      have hK:=Lc hK1
      clear hK1
      gi_wp2
      refine hK.out _ _ ?_;exact dL
     |8,ho=>
      obtain rfl:=Le ho
      have hl2:=hdep ⟨2,.guard⟩ (by simp) rfl
      obtain rfl:=F2.out hl2
      clear hdep
      refine LU rfl (fun K1 hK1=>?_)
      have hK:=Lc hK1
      clear hK1
      gi_wp2
      refine hK.out _ _ ?_;exact dL
     |9,ho=>
      obtain rfl:=Le ho
      have hl2:=hdep ⟨2,.guard⟩ (by simp) rfl
      obtain rfl:=F2.out hl2
      clear hdep
      refine LU rfl (fun K1 hK1=>?_)
      have hK:=Lc hK1
      clear hK1
      gi_wp2
      refine hK.out _ _ ?_;exact dL
     |10,ho=>
      obtain rfl:=Le ho
      have hl2:=hdep ⟨2,.guard⟩ (by simp) rfl
      obtain rfl:=F2.out hl2
      clear hdep
      refine LU rfl (fun K1 hK1=>?_)
      have hK:=Lc hK1
      clear hK1
      gi_wp2
      refine hK.out _ _ ?_;exact dL
     |11,ho=>
      obtain rfl:=Le ho
      have hl2:=hdep ⟨2,.guard⟩ (by simp) rfl
      obtain rfl:=F2.out hl2
      clear hdep
      refine LU rfl (fun K1 hK1=>?_)
      have hK:=Lc hK1
      clear hK1
      gi_wp2
      refine hK.out _ _ ?_;exact dL
     |12,ho=>
      obtain rfl:=Le ho
      have hl2:=hdep ⟨2,.guard⟩ (by simp) rfl
      obtain rfl:=F2.out hl2
      clear hdep
      refine LU rfl (fun K1 hK1=>?_)
      have hK:=Lc hK1
      clear hK1
      gi_wp2
      refine hK.out _ _ ?_;exact dL
     |13,ho=>
      obtain rfl:=Le ho
      have hl2:=hdep ⟨2,.guard⟩ (by simp) rfl
      obtain rfl:=F2.out hl2
      clear hdep
      refine LU rfl (fun K1 hK1=>?_)
      have hK:=Lc hK1
      clear hK1
      gi_wp2
      refine hK.out _ _ ?_;exact dL
     |14,ho=>
      obtain rfl:=Le ho
      have hl2:=hdep ⟨2,.guard⟩ (by simp) rfl
      obtain rfl:=F2.out hl2
      clear hdep
      refine LU rfl (fun K1 hK1=>?_)
      have hK:=Lc hK1
      clear hK1
      gi_wp2
      refine hK.out _ _ ?_;exact dL
     |15,ho=>
      obtain rfl:=Le ho
      have hl2:=hdep ⟨2,.guard⟩ (by simp) rfl
      obtain rfl:=F2.out hl2
      clear hdep
      refine LU rfl (fun K1 hK1=>?_)
      have hK:=Lc hK1
      clear hK1
      gi_wp2
      refine hK.out _ _ ?_;exact dL
     |16,ho=>
      obtain rfl:=Le ho
      have hl2:=hdep ⟨2,.guard⟩ (by simp) rfl
      obtain rfl:=F2.out hl2
      clear hdep
      refine LU rfl (fun K1 hK1=>?_)
      have hK:=Lc hK1
      clear hK1
      gi_wp2
      refine hK.out _ _ ?_;exact dL
     |17,ho=>
      obtain rfl:=Le ho
      have hl2:=hdep ⟨2,.data⟩ (by simp) rfl
      obtain rfl:=F2.out hl2
      clear hdep
      refine LU rfl (fun K1 hK1=>?_)
      have hK:=Lc hK1
      clear hK1
      gi_wp2
      refine hK.out _ _ ?_;exact dL
  ·have hin:i=n:=by omega
   have i1:¬(at0:Int)< (T:Int):=by have:=HT.out;omega
   have HI2:=Lc hik
   have hk2:=hk.out
   rw[hin]at hk2
   rw[hk2]at HI2
   clear hik hat hk hk2 hin
   gi_wp2
   first|refine Li (Ms rfl _ _ _) rfl ?_|refine Nj (Ms rfl _ _ _) rfl ?_
   exact⟨⟨_,rfl⟩,.inl HI2.out⟩
end
section
open Go.Shelf
attribute [local go_sem] Oper.semAt_some
def um (L:List Pr) (k:Nat):Pr:=L.getD k ⟨0,0⟩
theorem wK (B1 B2 B3:Nat) (s:Ss) (f n:Nat) (w:World) (hp:PrAt w B1 B2 B3 s f (f+n)) (ho:SsOk s) (hv:s.vs.length=s.ks.length) (hn:f+n<=s.ks.length) (hw:f+n<=64*s.ws.length):
  Calls prog 217 #[.slice none 0 0,.func (.func 218) #[] #[.pointer (some ⟨B1,0,none⟩),.pointer (some ⟨B2,0,none⟩),.pointer (some ⟨B3,0,none⟩)]] w (dV (mh s f n) w):=by
 refine df (_F:=Fence.wide) ?_
 have hdd:∀k:Nat,(Fence.wide.depth.isSome=true->1<=k):=fun k h=>by cases h
 have hwf:∀f,Fence.wide.fn f:=fun _=>trivial
 have hdp:Fence.wide.depth=none:=rfl
 have hro:Fence.wide.round=none:=rfl
 obtain⟨ti0,hti⟩:=info_parts ym
 have HI:=Lc hti
 have hl3:(mh s f n).length<=300:=by rw[qN,dQ];have:=eT s.ws n f;have:=ho.kl;omega
 have HK0:=Lc (show∀b,Jb B1 B2 B3 s b->b< w.heap.size from fun b hb=>hp.lt hb)
 obtain⟨W0,hW0⟩:∃W0,w.alloc (.cells #[.slice none 0 0] 47)=W0:=⟨_,rfl⟩
 have hb0:Below w.heap.size w W0:=by rw[<-hW0];exact(Lg _ _).alloc (Lf _) _
 have b0:Blk W0 w.heap.size 47 #[.slice none 0 0]:=by rw[<-hW0];exact Blk.new _ _ _
 have hs0:W0.heap.size=w.heap.size+1:=by rw[<-hW0];simp
 have hp0:PrAt W0 B1 B2 B3 s f (f+n):=hp.of hb0.size (fun b hb=>hb0.block b (hp.lt hb))
 have hY:=Iz B1 B2 B3 s f n W0 hp0 ho hv hn hw
 obtain⟨L,hL⟩:∃L,mh s f n=L:=⟨_,rfl⟩
 have hpx:∀k,KQ s f n k=#[.agg #[.int .i64 (um L k).key,.int .i64 (um L k).val]]:=fun k=>by unfold KQ;rw[hL];rfl
 rw[hL]at hY hl3 ⊢
 have HPX:=Lc hpx
 refine Nv func217 rfl (hwf _) ?_ hro
 simp only[ntmps217,LW,List.length_cons,List.length_nil,Me,Mf,Array.replicate_succ,Array.replicate_zero,M3,MP,Ml,M4]
 gi_wp2_with fail
 try rw[hW0]
 obtain⟨g,hg⟩:∃g,w.heap.size=g:=⟨_,rfl⟩
 rw[hg]at b0 hb0 hs0 ⊢
 have HKg:=Lc (show∀b,Jb B1 B2 B3 s b->b< g from fun b hb=>by rw[<-hg];exact HK0.out b hb)
 have HG:=Lc hg
 refine nJ hdp hwf hro rfl (enters_of func218 (by kernel_rfl) rfl)
  hY (fun b hb=>by have:=HKg.out b hb;omega) (fun _ h=>h.elim) (fun _=>rfl)
  (fun k W=>∃A' c',Hid (Blk W g 47 #[.slice A' k c']/\W.ownsRow (g+3) 55 2 (.slice A' k c') k ((L.take k).flatMap Pr.cells)/\Below g w W))
  (fun _ _=>False) ?stab (fun _ _ _ h _=>h) ?start
  (fun k a' W=>∃gy,a'=⟨#[.slice none 0 0,.func (.func 218) #[] #[.pointer (some ⟨B1,0,none⟩),.pointer (some ⟨B2,0,none⟩),.pointer (some ⟨B3,0,none⟩)],.pointer (some ⟨g,0,none⟩),undef,.slice none 0 0,.pointer (some ⟨gy,0,none⟩),.func (.func 218) #[] #[.pointer (some ⟨B1,0,none⟩),.pointer (some ⟨B2,0,none⟩),.pointer (some ⟨B3,0,none⟩)],.agg #[.int .i64 (um L k).key,.int .i64 (um L k).val],undef,undef,undef,undef,undef],[]⟩/\Hid (Blk W gy 55 #[.int .i64 (um L k).key,.int .i64 (um L k).val]/\g+3<=gy))
  ?stabx ?assign ?body ?done (fun _ _ h _=>h.elim)
 case start=>exact⟨none,0,b0,L6 _ _ _ _,hb0⟩
 case stab=>
  rintro k A1 B ⟨A',c',h⟩ hm
  obtain⟨h1,h2,h3⟩:=h.out
  exact⟨A',c',h1.mod hm (by simp;omega),gz h2 hm (by intro k hk;simp;omega),h3.trans (hm.below (by have:=h1.lt;omega) (by rintro k (h|h|h) <;> first|exact h.elim|omega))⟩
 case stabx=>
  rintro k a' A1 B ⟨gy,rfl,h⟩ hm
  obtain⟨hy,hgy⟩:=h.out
  exact⟨gy,rfl,hy.mod hm (by simp;omega),hgy⟩
 case assign=>
  intro y k hk A1 C hi hsz hC
  rw[HPX.out]
  gi_wp2
  refine hC _ _ ((Mod.refl _ _).alloc _) ?_ ⟨A1.heap.size,rfl,Blk.new _ _ _,by omega⟩
  obtain⟨A',c',h⟩:=hi
  obtain⟨h1,h2,h3⟩:=h.out
  exact⟨A',c',h1.alloc _,h2.alloc _,h3.alloc (by omega) _⟩
 case body=>
  rintro y k hk a' A1 hi ⟨gy,rfl,hy⟩ hsz
  obtain⟨A',c',h⟩:=hi
  obtain⟨h1,h2,h3⟩:=h.out
  obtain⟨hyb,hgy⟩:=hy.out
  obtain⟨e,he⟩:∃e,um L k=e:=⟨_,rfl⟩
  have hgt:L[k]'hk=e:=by rw[<-he];unfold um;rw[LJ,Lu hk];rfl
  have htk:=vB hk
  rw[hgt]at htk
  rw[he]at hyb ⊢
  have HTK:=Lc htk
  have y0:A1.cell? ⟨gy,0,none⟩=some (.int .i64 e.key):=hyb.cell 0
  have y1:A1.cell? ⟨gy,1,none⟩=some (.int .i64 e.val):=hyb.cell 1
  have cg:A1.cell? ⟨g,0,none⟩=some (.slice A' k c'):=h1.cell 0
  have HO:=Lc h2
  have H1:=Lc h1
  have H3:=Lc h3
  have hg1:g< A1.heap.size:=h1.lt
  have hgz:gy< A1.heap.size:=hyb.lt
  have hkb:k<=300:=by omega
  have cf:A1.frozen? ⟨g,0,none⟩=false:=H1.out.frozen 0
  gi_wp2_with (gi_at_builtin;refine wpListIn_append_own _ rfl (.tmp 8) (.tmp 10) _ rfl (g+3) 55 ti0 _ 2 16 underlying47 HI.out.1 HI.out.2.1 HI.out.2.2.1 HI.out.2.2.2 rfl (by omega) (.slice A' k c') _ _ rfl (HO.out.alloc _) _ 1 _ [.int .i64 e.key,.int .i64 e.val] rfl (by simp) (by intro j u hu;rw[Addr.add_lit];exact((Blk.new A1 55 #[.int .i64 e.key,.int .i64 e.val]).cell (0+j)).trans (by simpa using hu)) (by simp[Value.oneCell']) (by unfold maxLen;omega) (by omega) (by simp;omega) ?_;intro v2 w2 hown2 hg2 _;obtain⟨A2,c2,rfl,-,-⟩:=ak hown2;have hm2:Mod (fun b=>g+3<=b) A1 w2:=((Mod.refl _ _).alloc _).grown hg2 (fun k hk=> .inl (HO.out.lt k hk).1);have h2:=H1.out.mod hm2 (by omega);have cg2:w2.cell? ⟨g,0,none⟩=some (.slice A' k c'):=h2.cell 0;have cf2:w2.frozen? ⟨g,0,none⟩=false:=h2.frozen 0)
  have HO2:=Lc hown2
  have HM2:=Lc hm2
  have H2:=Lc h2
  have hfin:zq W0.heap.size (Jb B1 B2 B3 s) (fun W=>∃A' c',Hid (Blk W g 47 #[.slice A' (k+1) c']/\W.ownsRow (g+3) 55 2 (.slice A' (k+1) c') (k+1) ((L.take (k+1)).flatMap Pr.cells)/\Below g w W)) (fun _ _=>False) A1 .normal ⟨#[],[]⟩ (w2.setCell ⟨g,0,none⟩ (.slice A2 (k+1) c2)):=by
   refine⟨((HM2.out.mono (T:=fun b=>g<=b/\b≠W0.heap.size/\b≠W0.heap.size+1) (fun b _ hb=>by omega)).setCell (p:=⟨g,0,none⟩) (by show g<=g/\g≠_/\g≠_;omega) _).mono (fun b _ hb=>⟨hb.2.1,hb.2.2,fun hk=>by have:=HKg.out b hk;omega⟩),A2,c2,by simpa using H2.out.set_ 0 (.slice A2 (k+1) c2),?_,?_⟩
   ·rw[HTK.out];exact gu HO2.out (p:=⟨g,0,none⟩) (fun e=>by have:=(HO2.out.lt _ e).1;dsimp only at this;omega) _
   ·exact(H3.out.trans (HM2.out.below (by omega) (by intro k hk;omega))).setCell (p:=⟨g,0,none⟩) (by show g<=g;omega) _
  exact hfin
 case done=>
  rintro W ⟨A',c',h⟩ hD
  rw[List.take_of_length_le (Lf _)]at h
  obtain⟨h1,h2,h3⟩:=h.out
  have hB6:Blk (W.putObj W0.heap.size (.deferred none)) g 47 #[.slice A' L.length c']:=h1.of (LA (by omega))
  have e6:W.cell? ⟨g,0,none⟩=some (.slice A' L.length c'):=h1.cell 0
  have HO:=Lc h2
  have HBB:=Lc h3
  have HD2:=Lc hD
  gi_wp2_with fail
  refine sD (v:= .slice A' L.length c') HD2.out (by simp[results,results217,go_sem]) ⟨A',c',rfl,?_,?_⟩
  ·rw[HG.out]
   exact ay (gz (Sx:=fun b=>b=W0.heap.size) HO.out (Mod.putObj (S:=fun b=>b=W0.heap.size) (Mod.refl _ _) rfl _) (fun k hk h=>by omega)) (by omega)
  ·rw[HG.out]
   exact HBB.out.trans ⟨rfl,rfl,rfl,by simp[World.putObj],fun k hk=>LA (by omega)⟩
theorem uq (B1 B2 B3:Nat) (s:Ss) (f n:Nat) (w:World) (hp:PrAt w B1 B2 B3 s f (f+n)) (ho:SsOk s) (hv:s.vs.length=s.ks.length) (hn:f+n<=s.ks.length) (hw:f+n<=64*s.ws.length):
  Calls prog 204 #[.func (.func 218) #[] #[.pointer (some ⟨B1,0,none⟩),.pointer (some ⟨B2,0,none⟩),.pointer (some ⟨B3,0,none⟩)]] w (dV (mh s f n) w):=by
 have HA:=Lc (wK B1 B2 B3 s f n w hp ho hv hn hw)
 go_enter func204,ntmps204
 go_wp2_with fail
 refine HA.out.mono ?_
 rintro e w1 ⟨A1,c1,rfl,h1,h2⟩
 have H1:=Lc h1
 have H2:=Lc h2
 go_wp2_with fail
 go_ret
 exact⟨A1,c1,rfl,H1.out,H2.out⟩
theorem yD (s:Ss) (f n:Nat) (w:World) (hs:SsAt w s):
  Calls prog 205 #[.agg s.row,.int .i64 (f:Nat),.int .i64 ((f+n:Nat):Int)] w fun r w'=>
   r= .returned (.func (.func 218) #[] #[.pointer (some ⟨w.heap.size+1,0,none⟩),.pointer (some ⟨w.heap.size+1+1,0,none⟩),.pointer (some ⟨w.heap.size,0,none⟩)])/\Below w.heap.size w w'/\PrAt w' (w.heap.size+1) (w.heap.size+1+1) w.heap.size s f (f+n):=by
 have HS:=Lc hs
 obtain⟨T,hT⟩:∃T,f+n=T:=⟨_,rfl⟩
 rw[hT]
 go_enter func205,ntmps205
 go_wp2
 have hb:Below w.heap.size w (((w.alloc (.cells s.row 29)).alloc (.cells #[.int .i64 (f:Nat)] 3)).alloc (.cells #[.int .i64 (T:Nat)] 3)):=(((Lg _ _).alloc (Lf _) _).alloc (by simp) _).alloc (by simp;omega) _
 have b3:Blk (((w.alloc (.cells s.row 29)).alloc (.cells #[.int .i64 (f:Nat)] 3)).alloc (.cells #[.int .i64 (T:Nat)] 3)) w.heap.size 29 s.row:=((Blk.new w _ _).alloc _).alloc _
 have b1:Blk (((w.alloc (.cells s.row 29)).alloc (.cells #[.int .i64 (f:Nat)] 3)).alloc (.cells #[.int .i64 (T:Nat)] 3)) (w.heap.size+1) 3 #[.int .i64 (f:Nat)]:=by
  have:=Blk.new (w.alloc (.cells s.row 29)) 3 #[.int .i64 (f:Nat)]
  rw[Ls]at this
  exact this.alloc _
 have b2:Blk (((w.alloc (.cells s.row 29)).alloc (.cells #[.int .i64 (f:Nat)] 3)).alloc (.cells #[.int .i64 (T:Nat)] 3)) (w.heap.size+1+1) 3 #[.int .i64 (T:Nat)]:=by
  have:=Blk.new ((w.alloc (.cells s.row 29)).alloc (.cells #[.int .i64 (f:Nat)] 3)) 3 #[.int .i64 (T:Nat)]
  rwa [Ls,Ls]at this
 go_ret
 exact⟨rfl,hb,b1,b2,b3,HS.out.words.below hb,HS.out.keys.below hb,HS.out.vals.below hb⟩
theorem EE (s:Ss) (f t:Nat) (w:World) (hs:SsAt w s) (ho:SsOk s) (hft:f<=t) (ht:t<=s.ks.length):
  Calls prog 203 #[.agg s.row,.int .i64 (f:Nat),.int .i64 (t:Nat)] w fun r w'=>r= .returned (.int .i64 (if bB s=true then 0 else 8))/\Below w.heap.size w w':=by
 obtain⟨W0,hW0,hb0,b0⟩:=Ee w s
 have hch:=kM s W0 (hs.below hb0) ho
 obtain⟨M,hM⟩:∃M,bB s=M:=⟨_,rfl⟩
 rw[hM]at hch ⊢
 have HCH:=Lc hch
 have HW0:=Lc hW0
 have HB0:=Lc hb0
 have HC0:=Lc b0
 have i1:¬(f:Int)< 0:=by omega
 have i2:¬(t:Int)< (f:Int):=by omega
 have i3:¬(s.ks.length:Int)< (t:Int):=by omega
 have i4:¬t< f:=by omega
 have i5:¬s.ks.length< t:=by omega
 have HI:=Lc (Lr i1 (Lr i2 (Lr i3 (Lr i4 i5))))
 clear hW0 hb0 hch hM hs ho hft ht i1 i2 i3 i4 i5
 obtain⟨i0,q0,q1,q2,q3,q4,q5⟩:=E5 b0
 clear b0
 go_enter func203,ntmps203
 go_upto_region 1 with fail
 rw[HW0.out]
 go_wp2_with fail
 refine HCH.out.mono ?_
 rintro e w1 ⟨rfl,hb1⟩
 have HB1:=Lc (aa HB0.out hb1)
 have bC1:=HC0.out.below hb1 HC0.out.lt
 clear hb1 q0 q1 q2 q3 q4 q5 i0 HW0 HB0 HC0 HCH
 obtain⟨i0,q0,q1,q2,q3,q4,q5⟩:=E5 bC1
 clear bC1
 cases M with
 |false=>
  go_wp2_with fail
  go_ret
  exact⟨rfl,HB1.out⟩
 |true=>
  obtain⟨i1,i2,i3,i4,i5⟩:=HI.out
  go_wp2_with fail
  go_ret
  exact⟨rfl,HB1.out⟩
def fJ (l:List Pr) (e:Int) (w:World) (r:Ending) (w':World):Prop:=∃A c,r= .returned (.tuple #[.slice A l.length c,.int .i64 e])/\w'.ownsRow w.heap.size 55 2 (.slice A l.length c) l.length (l.flatMap Pr.cells)/\Below w.heap.size w w'
theorem iI (s:Ss) (f n:Nat) (w:World) (hs:SsAt w s) (ho:SsOk s) (hn:f+n<=s.ks.length):
  Calls prog 195 #[.agg s.row,.int .i64 (f:Nat),.int .i64 ((f+n:Nat):Int)] w (fJ (if bB s=true then mh s f n else[]) (if bB s=true then 0 else 8) w):=by
 obtain⟨W0,hW0,hb0,b0⟩:=Ee w s
 have hch:=EE s f (f+n) W0 (hs.below hb0) ho (Nat.le_add_right _ _) hn
 have hit:=fun W (h:SsAt W s)=>yD s f n W h
 have hco:=fun(hm:bB s=true) B1 B2 B3 W (h:PrAt W B1 B2 B3 s f (f+n))=>uq B1 B2 B3 s f n W h ho (dJ hm).1 hn (by have:=(dJ hm).2.1;omega)
 obtain⟨M,hM⟩:∃M,bB s=M:=⟨_,rfl⟩
 obtain⟨L,hL⟩:∃M,mh s f n=M:=⟨_,rfl⟩
 rw[hM]at hch hco ⊢
 rw[hL]at hco ⊢
 obtain⟨LX,hLX⟩:∃x,(if M=true then L else[])=x:=⟨_,rfl⟩
 obtain⟨EX,hEX⟩:∃x:Int,(if M=true then(0:Int)else 8)=x:=⟨_,rfl⟩
 rw[hLX,hEX]
 have HLX:=Lc hLX
 have HEX:=Lc hEX
 have HCH:=Lc hch
 have HIT:=Lc hit
 have HCO:=Lc hco
 have HW0:=Lc hW0
 have HB0:=Lc hb0
 have HC0:=Lc b0
 have HS:=Lc (hs.below hb0)
 clear hW0 hb0 hch hit hco hM hL hs ho hn hLX hEX
 obtain⟨i0,q0,q1,q2,q3,q4,q5⟩:=E5 b0
 clear b0
 obtain⟨T,hT⟩:∃T,f+n=T:=⟨_,rfl⟩
 rw[hT]at HCH HIT HCO ⊢
 clear hT
 go_enter func195,ntmps195
 go_upto_region 1 with fail
 rw[HW0.out]
 go_wp2_with fail
 refine HCH.out.mono ?_
 rintro e w1 ⟨rfl,hb1⟩
 have HB1:=Lc (aa HB0.out hb1)
 have bC1:=HC0.out.below hb1 HC0.out.lt
 have HS1:=Lc (HS.out.below hb1)
 clear hb1 q0 q1 q2 q3 q4 q5 i0 HW0 HB0 HC0 HCH HS
 obtain⟨i0,q0,q1,q2,q3,q4,q5⟩:=E5 bC1
 clear bC1
 cases M with
 |false=>
  go_wp2_with fail
  refine Li (v:= .tuple #[.slice none 0 0,.int .i64 8]) (by simp[results,results195,go_sem]) rfl ?_
  exact⟨none,0,by rw[<-HLX.out,<-HEX.out];rfl,by rw[<-HLX.out];exact L6 _ _ _ _,HB1.out⟩
 |true=>
  go_wp2_with fail
  refine(HIT.out _ HS1.out).mono ?_
  rintro e w2 ⟨rfl,hb2,hp2⟩
  have HB2:=Lc (aa HB1.out hb2)
  have HP2:=Lc hp2
  clear hb2 hp2 q0 q1 q2 q3 q4 q5 i0
  go_wp2_with fail
  refine(HCO.out (by first|rfl|trivial) _ _ _ _ HP2.out).mono ?_
  rintro e w3 ⟨A1,c1,rfl,h1,h2⟩
  have H1:=Lc (ay h1 HB2.out.size)
  have H2:=Lc (aa HB2.out h2)
  clear h1 h2
  go_wp2_with fail
  refine Li (v:= .tuple #[.slice A1 L.length c1,.int .i64 0]) (by simp[results,results195,go_sem]) rfl ?_
  exact⟨A1,c1,by rw[<-HLX.out,<-HEX.out];rfl,by rw[<-HLX.out];exact H1.out,H2.out⟩
end
theorem Kh {L:List Pr} {i j:Nat} (hi:i< L.length) (hj:j+1=i) (h:(L[i]'hi).key<=(L[j]'(by omega)).key):¬Ris L:=fun hr=>by
 have:=hr.get (i:=j) (j:=i) (by omega) hi
 omega
theorem IJ {L:List Pr} (h:∀i (hi:i+1< L.length),(L[i]'(by omega)).key< (L[i+1]'hi).key):Ris L:=by
 rw[vP]
 induction L with
 |nil=>exact List.Pairwise.nil
 |cons p l ih=>
  have ih2:=ih (fun i hi=>by have:=h (i+1) (by simpa using hi);simpa using this)
  rw[List.pairwise_cons]
  refine⟨fun q hq=>?_,ih2⟩
  cases l with
  |nil=>cases hq
  |cons r m=>
   have h0:=h 0 (by simp)
   simp at h0
   rcases List.mem_cons.1 hq with rfl|hq
   ·exact h0
   ·have:=(List.pairwise_cons.1 ih2).1 q hq
    omega
theorem mJ (s:Ss) (w:World) (hs:SsAt w s) (ho:SsOk s):
  Calls prog 194 #[.agg s.row] w fun r w'=>r= .returned (.int .i64 (mf s))/\Below w.heap.size w w':=by
 obtain⟨R,hR⟩:∃R,mf s=R:=⟨_,rfl⟩
 rw[hR]
 unfold mf at hR
 obtain⟨W0,hW0,hb0,b0⟩:=Ee w s
 have hpr:=iI s 0 s.ks.length W0 (hs.below hb0) ho (by omega)
 rw[Nat.zero_add]at hpr
 have hlen:(bu s).length<=300:=Lt (lH s) ho.kl
 change Calls _ _ _ W0 (fJ (if bB s=true then bu s else[]) _ W0)at hpr
 obtain⟨M,hM⟩:∃E,bB s=E:=⟨_,rfl⟩
 obtain⟨L,hL⟩:∃L,bu s=L:=⟨_,rfl⟩
 rw[hM,hL]at hpr hR
 rw[hL]at hlen
 have HPR:=Lc hpr
 have HR:=Lc hR
 have HLE:=Lc hlen
 have HW0:=Lc hW0
 have HB0:=Lc hb0
 have HC0:=Lc b0
 clear hR hpr hM hL hlen hW0 hb0 hs ho
 obtain⟨i0,q0,q1,q2,q3,q4,q5⟩:=E5 b0
 clear b0
 go_enter func194,ntmps194
 go_upto_region 1 with fail
 rw[HW0.out]
 go_wp2_with fail
 cases M with
 |false=>
  have hpr:=HPR.out
  obtain rfl:R=8:=HR.out.symm
  refine hpr.mono ?_
  clear hpr
  rintro e w1 ⟨A1,c1,rfl,h1,h2⟩
  have HB1:=Lc (aa HB0.out h2)
  clear h1 h2
  go_wp2_with fail
  go_ret
  exact⟨rfl,HB1.out⟩
 |true=>
 have hpr:=HPR.out
 have HR2:=Lc (show(if Ris L then(0:Int)else 130)=R from HR.out)
 refine hpr.mono ?_
 clear hpr HPR HR
 rintro e w1 ⟨A1,c1,rfl,h1,h2⟩
 have HSL:=Lc (aA h1)
 have HB1:=Lc (aa HB0.out h2)
 clear h1 h2 q0 q1 q2 q3 q4 q5 i0
 simp only[if_pos]at HSL ⊢
 go_wp2_with fail
 go_loopw [20] (fun e wr=>∃i:Nat,i<=L.length/\e= .int .i64 i/\Hid (Below w1.heap.size w1 wr)/\Hid (∀j (hj:j+1< L.length),j+1< i->(L[j]'(by omega)).key< (L[j+1]'hj).key)) (fun e _=>L.length-(intOf e).toNat)
 case atStart=>exact⟨0,LC _,rfl,Lg _ _,fun j hj h=>absurd h (Nat.not_lt_zero _)⟩
 case round=>
  obtain⟨i,hi,rfl,hbr,hup⟩:=hrel
  by_cases hlt:i< L.length
  ·have i1:(i:Int)< (L.length:Int):=by omega
   have i2:(0:Int)<=(i:Int):=by omega
   obtain⟨b1,o1,e1,hbl,hc0,hc1⟩:=HSL.out.prB hbr.out i hlt
   obtain⟨p,hp⟩:∃p,L[i]'hlt=p:=⟨_,rfl⟩
   rw[hp]at hc0 hc1
   have hw3:=aT i (by have:=HLE.out;omega)
   obtain rfl:=e1
   have HW3:=Lc hw3
   have HLT:=Lc hlt
   have HP:=Lc (show∀h:i< L.length,L[i]'h=p from fun _=>hp)
   have hbl2:b1< wr.heap.size:=Nat.lt_of_lt_of_le hbl hbr.out.size
   go_upto_region 7 with fail
   obtain⟨g,hg⟩:∃g,wr.heap.size=g:=⟨_,rfl⟩
   obtain⟨W5,hW5⟩:∃W,wr.alloc (.cells #[.int .i64 p.key,.int .i64 p.val] 55)=W:=⟨_,rfl⟩
   have hb5:Below wr.heap.size wr W5:=by rw[<-hW5];exact(Lg _ _).alloc (Lf _) _
   have k5:Blk W5 g 55 #[.int .i64 p.key,.int .i64 p.val]:=by rw[<-hW5,<-hg];exact Blk.new _ _ _
   have HB5:=Lc (aa hbr.out hb5)
   have HC5:=Lc (dC hb5).1
   rw[hg]at HC5 hbl2 ⊢
   rw[hW5]
   clear hW5 hb5 hc0 hc1 hlt hp hw3 hg hbl
   have g0:W5.cell? ⟨g,0,none⟩=some (.int .i64 p.key):=k5.cell 0
   clear k5
   by_cases hz:i=0
   ·subst hz
    have j1:decide ((0:Nat)< 0)=false:=by decide
    go_big_quiet (fail)
    go_wp2_with fail
    go_roundw
    case rel=>exact⟨1,HLT.out,rfl,aa HB5.out (av (Lg _ _) _),fun j hj h=>by omega⟩
    case measure=>have:=HLT.out;simp[intOf];omega
   ·obtain⟨j,hj⟩:∃j,j+1=i:=⟨i-1,by omega⟩
    obtain⟨b2,o2,e2,hbl3,hd0,-⟩:=HSL.out.prB hbr.out j (by have:=HLT.out;omega)
    cases e2
    obtain⟨q,hq⟩:∃q,(L[j]'(by have:=HLT.out;omega)).key=q:=⟨_,rfl⟩
    rw[hq]at hd0
    have g1:W5.cell? ⟨b1,o1+j*2,none⟩=some (.int .i64 q):=(HC5.out b1 _ hbl2).trans hd0
    have j1:decide (0< i)=true:=decide_eq_true (by omega)
    have j2:decide ((0:Int)< (i:Int))=true:=decide_eq_true (by omega)
    have j3:(0:Int)< (i:Int):=by omega
    have j4:(j:Int)< (L.length:Int):=by omega
    have j5:(0:Int)<=(j:Int):=by omega
    have hw4:IntKind.i64.wrap ((i:Int)-1)=(j:Int):=by rw[IntWalk.i64_in _ (by have:=HLE.out;omega)];omega
    have hw5:∀[Inhabited Nat],wrap64 ((i:Int)-1)=(j:Int):=by rw[IntWalk.wrap64_in _ (by have:=HLE.out;omega)];omega
    have HJ:=Lc hj
    have HQ:=Lc (show∀h:j< L.length,(L[j]'h).key=q from fun _=>hq)
    by_cases hle:p.key<=q
    ·obtain rfl:R=130:=by rw[<-HR2.out,if_neg (Kh HLT.out hj (by rw[HP.out HLT.out,hq];exact hle))]
     have hle2:decide (p.key<=q)=true:=decide_eq_true hle
     clear hd0 hj hq hi
     go_big_quiet (fail)
     go_wp2_with fail
     go_ret
     exact⟨rfl,aa HB1.out (aa HB5.out (av (Lg _ _) _))⟩
    ·have hle2:decide (p.key<=q)=false:=decide_eq_false hle
     have HNL:=Lc hle
     clear hd0 hj hq hi
     go_big_quiet (fail)
     go_wp2_with fail
     go_roundw
     case rel=>exact⟨i+1,HLT.out,by rw[HW3.out],aa HB5.out (av (Lg _ _) _),fun k hk h=>by
      by_cases hki:k+1< i
      ·exact hup.out k hk hki
      ·have hkj:k=j:=by have:=HJ.out;omega
       subst hkj
       have h1:=HP.out HLT.out
       have h2:=HQ.out (by omega)
       have h3:=HNL.out
       simp only[<-HJ.out]at h1
       rw[h1,h2]
       omega⟩
     case measure=>exact bO _ i HLT.out HW3.out
  ·have i1:¬(i:Int)< (L.length:Int):=by omega
   obtain rfl:R=0:=by rw[<-HR2.out,if_pos (IJ fun j hj=>hup.out j hj (by omega))]
   have HBR:=Lc hbr.out
   clear hlt hi
   go_wp2_with fail
   go_ret
   exact⟨rfl,aa HB1.out HBR.out⟩
def pE (rs:Lv):List Ent:=dx (bJ (rs.map di))
def zeroE:Ent:=⟨0,0,false⟩
theorem vV {rs:Lv}:(pE rs).length<=tot rs:=by
 unfold pE
 refine Lt (gG _) ?_
 have h1:=jT (rs.map di) []
 have h2:((rs.map di).map List.length).sum=tot rs:=by
  unfold tot
  rw[List.map_map]
  congr 1
  refine List.map_congr_left fun l _=>?_
  simp[aF]
 rw[h2]at h1
 simpa[bJ]using h1
section
open Go.Shelf
attribute [local go_sem] Oper.semAt_some
theorem jO {F:Fence} {P:Program} {fn:Func} {R:Ending->World->Prop} {tmps:Array Value} {D:Nat} {w:World} {v:Value}
  (hD:w.heap[D]?=some (.deferred (some []))) (hr:(results fn tmps).run P (w.putObj D (.deferred none))= .ok v (w.putObj D (.deferred none))) (hR:R (.returned v) (w.putObj D (.deferred none))):
  bodyPostM F 0 P fn R .ret {tmps:=tmps,defers:=[{target:= .collected D,args:=#[]}]} w:=
 ⟨by simp,.inl ⟨_,_,rfl,run_takeDeferred hD,⟨_,hr,hR⟩⟩⟩
theorem uz (n x y k:Nat) (w:World) (hn:n<=65536) (hx:(ai n 0)[k]?=some x) (hy:(ai n 0)[k+1]?=some y):
  Calls prog 292 #[.int .i64 (n:Nat),.int .i64 (x:Nat)] w fun r w'=>r= .returned (.tuple #[.int .i64 (y:Nat),.int .i64 0])/\w=w':=by
 have hxn:=eP (Nr hx)
 have H:=Lc (sO hx hy)
 have hy1:((y:Int)==-1)=false:=beq_eq_false_iff_ne.2 (by omega)
 clear hx hy
 go_enter func292,ntmps292
 go_wp2_with fail
 refine(oP n x _ hn hxn).mono ?_
 rintro e w1 ⟨rfl,rfl⟩
 go_wp2_with fail
 refine(jM n x _ _ rfl rfl hn hxn _).mono ?_
 rw[H.out]
 rintro e w2 ⟨rfl,rfl⟩
 go_wp2
 refine Li (v:= .tuple #[.int .i64 (y:Nat),.int .i64 0]) (by simp[results,results292,go_sem]) rfl ?_
 exact⟨rfl,rfl⟩
theorem ut (n x k:Nat) (w:World) (hn:n<=65536) (hx:(ai n 0)[k]?=some x) (hy:(ai n 0)[k+1]?=none):
  Calls prog 292 #[.int .i64 (n:Nat),.int .i64 (x:Nat)] w fun r w'=>r= .returned (.tuple #[.int .i64 0,.int .i64 6])/\w=w':=by
 have hxn:=eP (Nr hx)
 have H:=Lc (sW hx hy)
 clear hx hy
 go_enter func292,ntmps292
 go_wp2_with fail
 refine(oP n x _ hn hxn).mono ?_
 rintro e w1 ⟨rfl,rfl⟩
 go_wp2_with fail
 refine(jM n x _ _ rfl rfl hn hxn _).mono ?_
 rw[H.out]
 rintro e w2 ⟨rfl,rfl⟩
 go_wp2
 refine Li (v:= .tuple #[.int .i64 0,.int .i64 6]) (by simp[results,results292,go_sem]) rfl ?_
 exact⟨rfl,rfl⟩
theorem zx (w:World):
  Calls prog 283 #[.int .i64 0,.int .i64 0] w fun r w'=>r= .returned (.tuple #[.int .i64 0,.int .i64 2])/\Below w.heap.size w w':=by
 refine df (_F:=Fence.wide) ?_
 have hdd:∀k:Nat,(Fence.wide.depth.isSome=true->1<=k):=fun k h=>by cases h
 have hwf:∀f,Fence.wide.fn f:=fun _=>trivial
 have hdp:Fence.wide.depth=none:=rfl
 have hro:Fence.wide.round=none:=rfl
 have hwz:∀W:World,Calls prog 290 #[.int .i64 0,.int .i64 0] W fun r w'=>r= .returned (.int .i64 2)/\W=w':=by
  intro W
  have H0:Hid (nC (0:Nat)=0):=rfl
  go_enter func290,ntmps290
  go_wp2_with fail
  refine(oM (0:Nat) _).mono ?_
  rw[H0.out]
  rintro e w1 ⟨rfl,rfl⟩
  go_wp2
  go_ret
  exact⟨rfl,rfl⟩
 refine Nv func283 rfl (hwf _) ?_ hro
 simp only[ntmps283,LW,List.length_cons,List.length_nil,Me,Mf,Array.replicate_succ,Array.replicate_zero,M3,MP,Ml,M4]
 gi_wp2_with ((try first|refine⟨hdp,?_⟩|refine⟨hdd _,?_⟩);gi_at_call 290;refine(callsIn_wide.2 (hwz _)).mono ?_;rintro e w1 ⟨rfl,rfl⟩)
 refine⟨.tuple #[.int .i64 0,.int .i64 2],by simp[results,results283,go_sem],rfl,?_⟩
 exact(((Lg _ _).alloc (Lf _) _).alloc (by simp) _).alloc (by simp;omega) _
theorem GK (n k:Nat) (hn:n<=65536) (hk:k< n) (w:World):
  Calls prog 283 #[.int .i64 (n:Nat),.int .i64 (k:Nat)] w fun r w'=>r= .returned (.tuple #[.int .i64 ((ai n 0).getD k 0:Nat),.int .i64 0])/\Below w.heap.size w w':=by
 obtain⟨at_,hat⟩:∃at_,(ai n 0).getD k 0=at_:=⟨_,rfl⟩
 rw[hat]
 have HAT:=Lc hat
 clear hat
 refine df (_F:=Fence.wide) ?_
 have hdd:∀k:Nat,(Fence.wide.depth.isSome=true->1<=k):=fun k h=>by cases h
 have hwf:∀f,Fence.wide.fn f:=fun _=>trivial
 have hdp:Fence.wide.depth=none:=rfl
 have hro:Fence.wide.round=none:=rfl
 refine Nv func283 rfl (hwf _) ?_ hro
 simp only[ntmps283,LW,List.length_cons,List.length_nil,Me,Mf,Array.replicate_succ,Array.replicate_zero,M3,MP,Ml,M4]
 gi_wp2_with (first
  |((try first|refine⟨hdp,?_⟩|refine⟨hdd _,?_⟩);gi_at_call 290;refine(callsIn_wide.2 (oP n k _ hn hk)).mono ?_;rintro e w1 ⟨rfl,rfl⟩)
  |((try first|refine⟨hdp,?_⟩|refine⟨hdd _,?_⟩);gi_at_call 289;refine(callsIn_wide.2 (rq _ _)).mono ?_;rintro e w1 ⟨rfl,rfl⟩))
 obtain⟨g,hg⟩:∃g,w.heap.size=g:=⟨_,rfl⟩
 obtain⟨W0,hW0⟩:∃W0,((((w.alloc (.cells #[.int .i64 (k:Nat)] 3)).alloc (.cells #[.int .i64 0] 3)).alloc (.cells #[.int .i64 0] 48)).alloc (.cells #[.int .i64 (n:Nat)] 3))=W0:=⟨_,rfl⟩
 rw[hW0]
 have b0:Blk W0 w.heap.size 3 #[.int .i64 (k:Nat)]:=by rw[<-hW0];exact(((Blk.new w _ _).alloc _).alloc _).alloc _
 have b1:Blk W0 (w.heap.size+1) 3 #[.int .i64 0]:=by
  rw[<-hW0];have:=Blk.new (w.alloc (.cells #[.int .i64 (k:Nat)] 3)) 3 #[.int .i64 0]
  rw[Ls]at this
  exact(this.alloc _).alloc _
 have b2:Blk W0 (w.heap.size+1+1) 48 #[.int .i64 0]:=by
  rw[<-hW0];have:=Blk.new ((w.alloc (.cells #[.int .i64 (k:Nat)] 3)).alloc (.cells #[.int .i64 0] 3)) 48 #[.int .i64 0]
  rw[Ls,Ls]at this
  exact this.alloc _
 have b3:Blk W0 (w.heap.size+1+1+1) 3 #[.int .i64 (n:Nat)]:=by
  rw[<-hW0];have:=Blk.new (((w.alloc (.cells #[.int .i64 (k:Nat)] 3)).alloc (.cells #[.int .i64 0] 3)).alloc (.cells #[.int .i64 0] 48)) 3 #[.int .i64 (n:Nat)]
  rwa [Ls,Ls,Ls]at this
 have hb0:Below w.heap.size w W0:=by
  rw[<-hW0];exact((((Lg _ w).alloc (Lf _) _).alloc (by simp) _).alloc (by simp;omega) _).alloc (by simp;omega) _
 have hs0:W0.heap.size=w.heap.size+4:=by rw[<-hW0];simp
 clear hW0
 rw[hg]at b0 b1 b2 b3 hb0 hs0 ⊢
 refine kU hdp hwf hro rfl (enters_of func296 (by kernel_rfl) rfl)
  (tF n (g+1+1+1) hn W0 (b3.cell 0)) (by rintro b rfl;omega) (fun _ h=>h.elim) (fun _=>rfl)
  (fun j W=>j<=k/\Blk W g 3 #[.int .i64 (k:Nat)]/\Blk W (g+1) 3 #[.int .i64 0]/\Blk W (g+1+1) 48 #[.int .i64 0]/\Below g w W)
  (fun c W=>c= .ret/\Blk W (g+1) 3 #[.int .i64 (at_:Nat)]/\Blk W (g+1+1) 48 #[.int .i64 0]/\Below g w W)
  (fun j=>[(17,.int .i64 (j:Nat)),(18,.int .i64 ((ai n 0).getD j 0:Nat)),(7,.int .i64 (j:Nat)),(8,.int .i64 ((ai n 0).getD j 0:Nat))])
  ?stab ?stabx ⟨LC _,b0,b1,b2,hb0⟩ ?assign ?body ?done ?stop
 case stab=>
  rintro j A B ⟨hj,hB0,hB1,hB2,hbl⟩ hm
  exact⟨hj,hB0.mod hm (by simp;omega),hB1.mod hm (by simp;omega),hB2.mod hm (by simp;omega),hbl.trans (hm.below (by have:=hB0.lt;omega) (by rintro k (h|h|h) <;> first|exact h.elim|omega))⟩
 case stabx=>
  rintro j A B ⟨hj,hB1,hB2,hbl⟩ hm
  exact⟨hj,hB1.mod hm (by simp;omega),hB2.mod hm (by simp;omega),hbl.trans (hm.below (by have:=hB1.lt;omega) (by rintro k (h|h|h) <;> first|exact h.elim|omega))⟩
 case assign=>
  intro l j hj A C hC
  simp only[oq]
  gi_wp2
  exact hC
 case body=>
  rintro l j hj A ⟨hjk,hB0,hB1,hB2,hbl⟩ hsA
  have c0:A.cell? ⟨g,0,none⟩=some (.int .i64 (k:Nat)):=hB0.cell 0
  simp only[rt,List.foldl_cons,List.foldl_nil]
  by_cases hjk2:j=k
  ·subst hjk2
   rw[HAT.out]
   have hq:((j:Int)==(j:Int))=true:=beq_self_eq_true _
   have c1:A.cell? ⟨g+1,0,none⟩=some (.int .i64 0):=hB1.cell 0
   have c2:A.cell? ⟨g+1+1,0,none⟩=some (.int .i64 0):=hB2.cell 0
   have f1:=hB1.frozen 0
   have f2:=hB2.frozen 0
   gi_wp2
   refine⟨((Mod.refl _ _).setCell (p:=⟨g+1,0,none⟩) (by simp;omega) _).setCell (p:=⟨g+1+1,0,none⟩) (by simp;omega) _,rfl,?_,?_,?_⟩
   ·exact(hB1.set_ 0 _).far (p:=⟨g+1+1,0,none⟩) (by simp) _
   ·have:=(hB2.far (p:=⟨g+1,0,none⟩) (by simp) (.int .i64 (at_:Nat))).set_ 0 (.int .i64 0)
    simpa using this
   ·exact(hbl.setCell (p:=⟨g+1,0,none⟩) (Nat.le_succ _) _).setCell (p:=⟨g+1+1,0,none⟩) (by show g<=g+1+1;omega) _
  ·have hq:((j:Int)==(k:Int))=false:=beq_eq_false_iff_ne.2 (by omega)
   have hjlt:j+1<=k:=by omega
   clear hjk2
   gi_wp2
   exact⟨Mod.refl _ _,hjlt,hB0,hB1,hB2,hbl⟩
 case done=>
  rintro W ⟨hj,_⟩ hD
  omega
 case stop=>
  rintro c W ⟨rfl,hB1,hB2,hbl⟩ hD
  have hlt1:=hB1.lt
  have hB1':Blk (W.putObj W0.heap.size (.deferred none)) (g+1) 3 #[.int .i64 (at_:Nat)]:=hB1.of (LA (by omega))
  have hB2':Blk (W.putObj W0.heap.size (.deferred none)) (g+1+1) 48 #[.int .i64 0]:=hB2.of (LA (by omega))
  have c1:(W.putObj W0.heap.size (.deferred none)).cell? ⟨g+1,0,none⟩=some (.int .i64 (at_:Nat)):=hB1'.cell 0
  have c2:(W.putObj W0.heap.size (.deferred none)).cell? ⟨g+1+1,0,none⟩=some (.int .i64 0):=hB2'.cell 0
  gi_wp2
  subst hg
  refine jO (v:= .tuple #[.int .i64 (at_:Nat),.int .i64 0]) hD (by simp[results,results283,go_sem,c1,c2]) ⟨rfl,?_⟩
  exact hbl.trans ⟨rfl,rfl,rfl,by simp[World.putObj],fun k hk=>LA (by omega)⟩
end
section
open Go.Shelf
attribute [local go_sem] Oper.semAt_some
def jY (l:List Ent) (k:Nat):Ent:=(di l).getD k zeroE
def Ga (l:List Ent) (k:Nat):Array Value:=#[.agg #[.int .i64 (jY l k).key,.int .i64 (jY l k).val,.bool (jY l k).dead]]
theorem Fa {l:List Ent} {k x:Nat} (hx:(ai l.length 0)[k]?=some x) (hl:x< l.length):jY l k=l[x]'hl:=by
 unfold jY di
 rw[LJ,List.getElem?_map,hx]
 simp[fo hl]
def Fj (w:World) (B n:Nat):Nat:=match w.cell? ⟨B,0,none⟩with|some (.int _ x)=>n-(ai n 0).idxOf x.toNat|_=>0
def Gb (e:Value) (m:Nat):Nat:=match e with| .int _ x=>if x=0 then m+1 else 0|_=>0
theorem zg (B1 B2:Nat) (A:Option Addr) (l:List Ent) (c:Nat) (hl:l.length<=65536) (w:World)
  (hc1:w.cell? ⟨B1,0,none⟩=some (.slice A l.length c)) (hb2:Blk w B2 3 #[.int .i64 ((ai l.length 0).getD 0 0:Nat)]) (h12:B1≠B2) (hA:Sl w A (l.flatMap Ent.cells)) (hA2:l.length≠0->∀a,A=some a->a.block≠B2):
  Yields Fence.wide prog 291 #[.pointer (some ⟨B1,0,none⟩),.pointer (some ⟨B2,0,none⟩)] l.length (Ga l) (fun b=>b=B1∨b=B2∨(l.length≠0/\∃a,A=some a/\b=a.block)) (fun b=>b=B2) w:=by
 intro y I X W hsz hKp hI hX hY h0
 have hcW:W.cell? ⟨B1,0,none⟩=some (.slice A l.length c):=(ME (hKp B1 (.inl rfl))).trans hc1
 have hbW:Blk W B2 3 #[.int .i64 ((ai l.length 0).getD 0 0:Nat)]:=hb2.of (hKp B2 (.inr (.inl rfl)))
 have hAW:Sl W A (l.flatMap Ent.cells):=by
  by_cases h0l:l.length=0
  ·left;rw[List.eq_nil_of_length_eq_zero h0l];rfl
  rcases hA with h|⟨b,off,hA1,hlt,hc⟩
  ·exact .inl h
  ·exact .inr ⟨b,off,hA1,Nat.lt_of_lt_of_le hlt hsz,fun j u hu=>(ME (a:=⟨b,off+j,none⟩) (hKp b (.inr (.inr ⟨h0l,_,hA1,rfl⟩)))).trans (hc j u hu)⟩
 have hdd:∀k:Nat,(Fence.wide.depth.isSome=true->1<=k):=fun k h=>by cases h
 have hwf:∀f,Fence.wide.fn f:=fun _=>trivial
 have hdp:Fence.wide.depth=none:=rfl
 have hro:Fence.wide.round=none:=rfl
 have HH:=Lc (Lr hI (Lr hX hY))
 clear hI hX hY hKp hb2 hc1 hA
 refine callsIn_of_wp func291 rfl (hwf _) ?_ hro
 simp only[ntmps291,LW,List.length_cons,List.length_nil,Me,Mf,Array.replicate_succ,Array.replicate_zero,M3,MP,Ml,M4]
 gi_wp2
 gi_loopw [4] (fun e wr=>∃k:Nat,I k wr/\Hid (wr.cell? ⟨B1,0,none⟩=some (.slice A l.length c)/\Sl wr A (l.flatMap Ent.cells))/\
  ((k< l.length/\e= .int .i64 0/\Hid (Blk wr B2 3 #[.int .i64 ((ai l.length 0).getD k 0:Nat)]))∨(k=l.length/\(l.length=0/\e= .int .i64 0∨e= .int .i64 6)))) (fun e wr=>Gb e (Fj wr B2 l.length))
 case atStart=>
  refine⟨0,h0,⟨hcW,hAW⟩,?_⟩
  by_cases hz:l.length=0
  ·exact .inr ⟨hz.symm,.inl ⟨hz,rfl⟩⟩
  ·exact .inl ⟨by omega,rfl,hbW⟩
 case round=>
  clear hcW hbW hAW h0
  obtain⟨k,hi,hcs,hcase⟩:=hrel
  rcases hcase with⟨hk,rfl,hb⟩|⟨hk,⟨hz,rfl⟩|rfl⟩
  ·have hkl:k< (ai l.length 0).length:=by rw[az];exact hk
   obtain⟨x,hx⟩:∃x,(ai l.length 0)[k]?=some x:=⟨_,Lu hkl⟩
   have hxn:x< l.length:=eP (Nr hx)
   have hgd:(ai l.length 0).getD k 0=x:=by simp[List.getD,hx]
   have hbx:=hb.out
   rw[hgd]at hbx
   have hat:=Fa hx hxn
   have hcx:=hcs.out.1
   obtain⟨b,off,hAe,hbl,e1,e2,e3⟩:=hcs.out.2.ent x hxn
   rw[<-hat]at e1 e2 e3
   subst hAe
   have hne:=hA2 (by omega) _ rfl
   have c2:wr.cell? ⟨B2,0,none⟩=some (.int .i64 (x:Nat)):=hbx.cell 0
   have n0:(0:Int)< (l.length:Int):=by omega
   have i0:(0:Int)<=(x:Int):=by omega
   have i1:(x:Int)< (l.length:Int):=by omega
   have hY':=HH.out.2.2 k wr hk hi
   unfold Ga at hY'
   obtain⟨fn,tmps,assign,body,hy,hR⟩:=hY'
   have HXX:=Lc hx
   have HBX:=Lc hbx
   have HMW:=Lc c2
   have HIDX:Hid ((ai l.length 0).idxOf x=k):=by
    show _=_
    have:=iA hkl
    rw[(List.getElem?_eq_some_iff.1 hx).2]at this
    exact this
   clear hx hat hbx hgd hb
   gi_wp2
   first|refine hR.mono ?_|refine⟨rfl,hR.mono ?_⟩|refine⟨hwf _,hR.mono ?_⟩
   clear hR hy
   rintro e W2 (⟨rfl,hi2,hs2,hk2⟩|⟨rfl,hx2⟩)
   ·have hcw2:W2.cell? ⟨B1,0,none⟩=some (.slice (some ⟨b,off,none⟩) l.length c):=(ME (hk2 B1 (.inl rfl))).trans hcs.out.1
    have hbw2:Blk W2 B2 3 #[.int .i64 (x:Nat)]:=HBX.out.of (hk2 B2 (.inr (.inl rfl)))
    have hAw2:Sl W2 (some ⟨b,off,none⟩) (l.flatMap Ent.cells):=by
     rcases hcs.out.2 with h|⟨b',off',hA1,hlt,hc⟩
     ·exact .inl h
     ·exact .inr ⟨b',off',hA1,Nat.lt_of_lt_of_le hlt hs2,fun j u hu=>(ME (a:=⟨b',off'+j,none⟩) (hk2 b' (.inr (.inr ⟨by omega,_,hA1,rfl⟩)))).trans (hc j u hu)⟩
    have HCS:=Lc (Lr hcw2 hAw2)
    have c2':W2.cell? ⟨B2,0,none⟩=some (.int .i64 (x:Nat)):=hbw2.cell 0
    have f2':W2.frozen? ⟨B2,0,none⟩=false:=hbw2.frozen 0
    have HBW:=Lc hbw2
    clear hk2 hcw2 hAw2 hbw2 e1 e2 e3 c2 hcx
    have hmd:∀v,Mod (fun b=>b=B2) W2 (W2.setCell ⟨B2,0,none⟩ v):=fun v=>Mod.setCell (S:=fun b=>b=B2) (Mod.refl _ _) (p:=⟨B2,0,none⟩) rfl v
    rcases hnext:(ai l.length 0)[k+1]? with _|z
    ·have hlen:k+1=l.length:=by
      have h1:=(List.getElem?_eq_none_iff.1 hnext)
      rw[az]at h1
      omega
     have HLN:=Lc hlen
     have HNX:=Lc hnext
     have HMD:=Lc hmd
     clear hnext hlen hmd
     gi_wp2_with ((try first|refine⟨hdp,?_⟩|refine⟨hdd _,?_⟩);gi_at_call 292;refine(callsIn_wide.2 (ut l.length x k _ hl HXX.out HNX.out)).mono ?_;rintro e w1 ⟨rfl,rfl⟩)
     go_roundw
     case rel=>
      have hm:=HMD.out (.int .i64 0)
      refine⟨k+1,HH.out.1 _ _ _ hi2 hm,⟨(hm.cell (p:=⟨B1,0,none⟩) (World.block_lt_of_cell? _ _ HCS.out.1) h12).trans HCS.out.1,HCS.out.2.mod hm (fun a ha=>by cases ha;exact hne)⟩,.inr ⟨HLN.out,.inr rfl⟩⟩
     case measure=>simp[Gb]
    ·have HNX:=Lc hnext
     have hkn:k+1< l.length:=by have:=(List.getElem?_eq_some_iff.1 hnext).1;rwa [az]at this
     have HMD:=Lc hmd
     have HID2:Hid ((ai l.length 0).idxOf z=k+1):=by
      show _=_
      have hh:k+1< (ai l.length 0).length:=by rw[az];exact hkn
      have:=iA hh
      rw[(List.getElem?_eq_some_iff.1 hnext).2]at this
      exact this
     clear hnext hmd
     gi_wp2_with ((try first|refine⟨hdp,?_⟩|refine⟨hdd _,?_⟩);gi_at_call 292;refine(callsIn_wide.2 (uz l.length x z k _ hl HXX.out HNX.out)).mono ?_;rintro e w1 ⟨rfl,rfl⟩)
     have hbz:Blk (W2.setCell ⟨B2,0,none⟩ (.int .i64 (z:Nat))) B2 3 #[.int .i64 (z:Nat)]:=by
      have:=HBW.out.set_ 0 (.int .i64 (z:Nat))
      simpa using this
     go_roundw
     case rel=>
      have hm:=HMD.out (.int .i64 (z:Nat))
      refine⟨k+1,HH.out.1 _ _ _ hi2 hm,⟨(hm.cell (p:=⟨B1,0,none⟩) (World.block_lt_of_cell? _ _ HCS.out.1) h12).trans HCS.out.1,HCS.out.2.mod hm (fun a ha=>by cases ha;exact hne)⟩,.inl ⟨hkn,rfl,?_⟩⟩
      show Blk _ _ _ _
      rw[show(ai l.length 0).getD (k+1) 0=z by simp[List.getD,HNX.out]]
      exact hbz
     case measure=>
      have h1:Fj (W2.setCell ⟨B2,0,none⟩ (.int .i64 (z:Nat))) B2 l.length=l.length-(k+1):=by
       unfold Fj
       rw[hbz.cell 0]
       simp[HID2.out]
      have h2:Fj wr B2 l.length=l.length-k:=by
       unfold Fj
       rw[show wr.cell? ⟨B2,0,none⟩=some (.int .i64 (x:Nat))from HMW.out]
       simp[HIDX.out]
      show Gb _ _< Gb _ _
      rw[h1,h2]
      simp[Gb]
      omega
   ·gi_wp2
    first|refine Li (Ms rfl _ _ _) rfl ?_|refine Nj (Ms rfl _ _ _) rfl ?_
    exact⟨⟨_,rfl⟩,.inr hx2⟩
  ·subst hk
   have hz2:((l.length:Int)<=0):=by omega
   have HI2:=Lc hi
   clear hz
   gi_wp2
   refine Nj (Ms rfl _ _ _) rfl ?_
   exact⟨⟨_,rfl⟩,.inl HI2.out⟩
  ·subst hk
   have HI2:=Lc hi
   by_cases hz:l.length=0
   ·have hz2:((l.length:Int)<=0):=by omega
    clear hz
    gi_wp2
    refine Nj (Ms rfl _ _ _) rfl ?_
    exact⟨⟨_,rfl⟩,.inl HI2.out⟩
   ·have hz2:(0:Int)< (l.length:Int):=by omega
    clear hz
    gi_wp2
    refine Nj (Ms rfl _ _ _) rfl ?_
    exact⟨⟨_,rfl⟩,.inl HI2.out⟩
end
end Go.Proofs.YtpbmbjjfdpkhbaaGreat
