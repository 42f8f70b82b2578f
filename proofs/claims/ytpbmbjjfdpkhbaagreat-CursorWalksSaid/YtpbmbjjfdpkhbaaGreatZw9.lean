/- part of the proof -/
import Derived.Test.YtpbmbjjfdpkhbaaGreatZw8
import Derived.OrdersIn
import Derived.Test.YtpbmbjjfdpkhbaaGreatZw2
import Derived.IntWalk
import Derived.Test.YtpbmbjjfdpkhbaaGreatZw4
import Derived.Maps.OwnSet
import Derived.Maps.Views
import Derived.Maps.AppendAt
import Derived.Deep.RegionHeld3
import Derived.Test.YtpbmbjjfdpkhbaaGreatZw1
import Derived.Deep.RegionLaw
namespace Go.Proofs.YtpbmbjjfdpkhbaaGreat
open Go Go.RowKit
set_option linter.all false
set_option maxRecDepth 100000
set_option maxHeartbeats 32000000
open Go.Proofs.Tryz
open And renaming intro->KW
open Below renaming refl->KR
open Bool renaming and_eq_true->Lm,false_ne_true->KP
open Go renaming bodyPost_end->M0,bodyPost_ret->KV,callsIn_of_wp_marks->MV,info_parts->LU,results_none->L6,wpOpIn_step->Le
open Go.IntWalk renaming i64_in->KU
open Go.Lib renaming hid->KO
open Go.Value renaming oneCell'->K5,ownBlock->M9
open Go.World renaming cell?_of_block->Mf,ownsRow_nil->Li,putObj_heap_other->K9,size_alloc->KX
open List renaming append_toArray->Me,cons_append->Mr,eq_nil_of_length_eq_zero->LM,getD_eq_getElem?_getD->Lf,getElem?_eq_getElem->K7,getElem_mem->Lh,map_append->MR,nil_append->LA,push_toArray->Mq,size_toArray->Ll,take_of_length_le->KZ,take_succ_eq_append_getElem->Lc
open Nat renaming le_refl->KS,le_succ->Mm,reduceAdd->LD,reduceSub->LF,zero_le->K8
open Option.some renaming inj->KQ
section
open Go.Shelf
attribute [local go_sem] Oper.semAt_some
def jM (l:List Ent) (k:Nat):Ent:=(dx l).getD k zeroE
def EJ (l:List Ent) (k:Nat):Array Value:=#[.agg #[.int .i64 (jM l k).key,.int .i64 (jM l k).val,.bool (jM l k).dead]]
theorem FJ {l:List Ent} {k x:Nat} (hx:(ai l.length 0)[k]?=some x) (hl:x< l.length):jM l k=l[x]'hl:=by
 unfold jM dx
 rw[Lf,List.getElem?_map,hx]
 simp[fD hl]
def GD (w:World) (B n:Nat):Nat:=match w.cell? ⟨B,0,none⟩with|some (.int _ x)=>n-(ai n 0).idxOf x.toNat|_=>0
def FC (e:Value) (m:Nat):Nat:=match e with| .int _ x=>if x=0 then m+1 else 0|_=>0
theorem wR (B1 B2:Nat) (A:Option Addr) (l:List Ent) (c:Nat) (hl:l.length<=65536) (w:World)
  (hc1:w.cell? ⟨B1,0,none⟩=some (.slice A l.length c)) (hb2:Blk w B2 3 #[.int .i64 ((ai l.length 0).getD 0 0:Nat)]) (h12:B1≠B2) (hA:Sl w A (l.flatMap Ent.cells)) (hA2:l.length≠0->∀a,A=some a->a.block≠B2):
  Yields Fence.wide prog 291 #[.pointer (some ⟨B1,0,none⟩),.pointer (some ⟨B2,0,none⟩)] l.length (EJ l) (fun b=>b=B1∨b=B2∨(l.length≠0/\∃a,A=some a/\b=a.block)) (fun b=>b=B2) w:=by
 intro y I X W hsz hKp hI hX hY h0
 have hcW:W.cell? ⟨B1,0,none⟩=some (.slice A l.length c):=(Mf (hKp B1 (.inl rfl))).trans hc1
 have hbW:Blk W B2 3 #[.int .i64 ((ai l.length 0).getD 0 0:Nat)]:=hb2.of (hKp B2 (.inr (.inl rfl)))
 have hAW:Sl W A (l.flatMap Ent.cells):=by
  by_cases h0l:l.length=0
  ·left;rw[LM h0l];rfl
  rcases hA with h|⟨b,off,hA1,hlt,hc⟩
  ·exact .inl h
  ·exact .inr ⟨b,off,hA1,Nat.lt_of_lt_of_le hlt hsz,fun j u hu=>(Mf (a:=⟨b,off+j,none⟩) (hKp b (.inr (.inr ⟨h0l,_,hA1,rfl⟩)))).trans (hc j u hu)⟩
 have hdd:∀k:Nat,(Fence.wide.depth.isSome=true->1<=k):=fun k h=>by cases h
 have hwf:∀f,Fence.wide.fn f:=fun _=>trivial
 have hdp:Fence.wide.depth=none:=rfl
 have hro:Fence.wide.round=none:=rfl
 have HH:=KO (KW hI (KW hX hY))
 clear hI hX hY hKp hb2 hc1 hA
 refine callsIn_of_wp func291 rfl (hwf _) ?_ hro
 simp only[ntmps291,Ll,List.length_cons,List.length_nil,LD,LF,Array.replicate_succ,Array.replicate_zero,Mq,Me,LA,Mr]
 gi_wp2
 gi_loopw [4] (fun e wr=>∃k:Nat,I k wr/\Hid (wr.cell? ⟨B1,0,none⟩=some (.slice A l.length c)/\Sl wr A (l.flatMap Ent.cells))/\
  ((k< l.length/\e= .int .i64 0/\Hid (Blk wr B2 3 #[.int .i64 ((ai l.length 0).getD k 0:Nat)]))∨(k=l.length/\(l.length=0/\e= .int .i64 0∨e= .int .i64 6)))) (fun e wr=>FC e (GD wr B2 l.length))
 case atStart=>
  refine⟨0,h0,⟨hcW,hAW⟩,?_⟩
  by_cases hz:l.length=0
  ·exact .inr ⟨hz.symm,.inl ⟨hz,rfl⟩⟩
  ·exact .inl ⟨by omega,rfl,hbW⟩
 case round=>
  clear hcW hbW hAW h0
  obtain⟨k,hi,hcs,hcase⟩:=hrel
  rcases hcase with⟨hk,rfl,hb⟩|⟨hk,⟨hz,rfl⟩|rfl⟩
  ·have hkl:k< (ai l.length 0).length:=by rw[az];exact hk
   obtain⟨x,hx⟩:∃x,(ai l.length 0)[k]?=some x:=⟨_,K7 hkl⟩
   have hxn:x< l.length:=eU (List.mem_of_getElem? hx)
   have hgd:(ai l.length 0).getD k 0=x:=by simp[List.getD,hx]
   have hbx:=hb.out
   rw[hgd]at hbx
   have hat:=FJ hx hxn
   have hcx:=hcs.out.1
   obtain⟨b,off,hAe,hbl,e1,e2,e3⟩:=hcs.out.2.ent x hxn
   rw[<-hat]at e1 e2 e3
   subst hAe
   have hne:=hA2 (by omega) _ rfl
   have c2:wr.cell? ⟨B2,0,none⟩=some (.int .i64 (x:Nat)):=hbx.cell 0
   have n0:(0:Int)< (l.length:Int):=by omega
   have i0:(0:Int)<=(x:Int):=by omega
   have i1:(x:Int)< (l.length:Int):=by omega
   have hY':=HH.out.2.2 k wr hk hi
   unfold EJ at hY'
   obtain⟨fn,tmps,assign,body,hy,hR⟩:=hY'
   have HXX:=KO hx
   have HBX:=KO hbx
   have HMW:=KO c2
   have HIDX:Hid ((ai l.length 0).idxOf x=k):=by
    show _=_
    have:=iA hkl
    rw[(List.getElem?_eq_some_iff.1 hx).2]at this
    exact this
   clear hx hat hbx hgd hb
   gi_wp2
   first|refine hR.mono ?_|refine⟨rfl,hR.mono ?_⟩|refine⟨hwf _,hR.mono ?_⟩
   clear hR hy
   rintro e W2 (⟨rfl,hi2,hs2,hk2⟩|⟨rfl,hx2⟩)
   ·have hcw2:W2.cell? ⟨B1,0,none⟩=some (.slice (some ⟨b,off,none⟩) l.length c):=(Mf (hk2 B1 (.inl rfl))).trans hcs.out.1
    have hbw2:Blk W2 B2 3 #[.int .i64 (x:Nat)]:=HBX.out.of (hk2 B2 (.inr (.inl rfl)))
    have hAw2:Sl W2 (some ⟨b,off,none⟩) (l.flatMap Ent.cells):=by
     rcases hcs.out.2 with h|⟨b',off',hA1,hlt,hc⟩
     ·exact .inl h
     ·exact .inr ⟨b',off',hA1,Nat.lt_of_lt_of_le hlt hs2,fun j u hu=>(Mf (a:=⟨b',off'+j,none⟩) (hk2 b' (.inr (.inr ⟨by omega,_,hA1,rfl⟩)))).trans (hc j u hu)⟩
    have HCS:=KO (KW hcw2 hAw2)
    have c2':W2.cell? ⟨B2,0,none⟩=some (.int .i64 (x:Nat)):=hbw2.cell 0
    have f2':W2.frozen? ⟨B2,0,none⟩=false:=hbw2.frozen 0
    have HBW:=KO hbw2
    clear hk2 hcw2 hAw2 hbw2 e1 e2 e3 c2 hcx
    have hmd:∀v,Mod (fun b=>b=B2) W2 (W2.setCell ⟨B2,0,none⟩ v):=fun v=>Mod.setCell (S:=fun b=>b=B2) (Mod.refl _ _) (p:=⟨B2,0,none⟩) rfl v
    rcases hnext:(ai l.length 0)[k+1]? with _|z
    ·have hlen:k+1=l.length:=by
      have h1:=(List.getElem?_eq_none_iff.1 hnext)
      rw[az]at h1
      omega
     have HLN:=KO hlen
     have HNX:=KO hnext
     have HMD:=KO hmd
     clear hnext hlen hmd
     gi_wp2_with ((try first|refine⟨hdp,?_⟩|refine⟨hdd _,?_⟩);gi_at_call 292;refine(callsIn_wide.2 (ut l.length x k _ hl HXX.out HNX.out)).mono ?_;rintro e w1 ⟨rfl,rfl⟩)
     go_roundw
     case rel=>
      have hm:=HMD.out (.int .i64 0)
      refine⟨k+1,HH.out.1 _ _ _ hi2 hm,⟨(hm.cell (p:=⟨B1,0,none⟩) (World.block_lt_of_cell? _ _ HCS.out.1) h12).trans HCS.out.1,HCS.out.2.mod hm (fun a ha=>by cases ha;exact hne)⟩,.inr ⟨HLN.out,.inr rfl⟩⟩
     case measure=>simp[FC]
    ·have HNX:=KO hnext
     have hkn:k+1< l.length:=by have:=(List.getElem?_eq_some_iff.1 hnext).1;rwa [az]at this
     have HMD:=KO hmd
     have HID2:Hid ((ai l.length 0).idxOf z=k+1):=by
      show _=_
      have hh:k+1< (ai l.length 0).length:=by rw[az];exact hkn
      have:=iA hh
      rw[(List.getElem?_eq_some_iff.1 hnext).2]at this
      exact this
     clear hnext hmd
     gi_wp2_with ((try first|refine⟨hdp,?_⟩|refine⟨hdd _,?_⟩);gi_at_call 292;refine(callsIn_wide.2 (tY l.length x z k _ hl HXX.out HNX.out)).mono ?_;rintro e w1 ⟨rfl,rfl⟩)
     have hbz:Blk (W2.setCell ⟨B2,0,none⟩ (.int .i64 (z:Nat))) B2 3 #[.int .i64 (z:Nat)]:=by
      have:=HBW.out.set_ 0 (.int .i64 (z:Nat))
      simpa using this
     go_roundw
     case rel=>
      have hm:=HMD.out (.int .i64 (z:Nat))
      refine⟨k+1,HH.out.1 _ _ _ hi2 hm,⟨(hm.cell (p:=⟨B1,0,none⟩) (World.block_lt_of_cell? _ _ HCS.out.1) h12).trans HCS.out.1,HCS.out.2.mod hm (fun a ha=>by cases ha;exact hne)⟩,.inl ⟨hkn,rfl,?_⟩⟩
      show Blk _ _ _ _
      rw[show(ai l.length 0).getD (k+1) 0=z by simp[List.getD,HNX.out]]
      exact hbz
     case measure=>
      have h1:GD (W2.setCell ⟨B2,0,none⟩ (.int .i64 (z:Nat))) B2 l.length=l.length-(k+1):=by
       unfold GD
       rw[hbz.cell 0]
       simp[HID2.out]
      have h2:GD wr B2 l.length=l.length-k:=by
       unfold GD
       rw[show wr.cell? ⟨B2,0,none⟩=some (.int .i64 (x:Nat))from HMW.out]
       simp[HIDX.out]
      show FC _ _< FC _ _
      rw[h1,h2]
      simp[FC]
      omega
   ·gi_wp2
    first|refine KV (L6 rfl _ _ _) rfl ?_|refine M0 (L6 rfl _ _ _) rfl ?_
    exact⟨⟨_,rfl⟩,.inr hx2⟩
  ·subst hk
   have hz2:((l.length:Int)<=0):=by omega
   have HI2:=KO hi
   clear hz
   gi_wp2
   refine M0 (L6 rfl _ _ _) rfl ?_
   exact⟨⟨_,rfl⟩,.inl HI2.out⟩
  ·subst hk
   have HI2:=KO hi
   by_cases hz:l.length=0
   ·have hz2:((l.length:Int)<=0):=by omega
    clear hz
    gi_wp2
    refine M0 (L6 rfl _ _ _) rfl ?_
    exact⟨⟨_,rfl⟩,.inl HI2.out⟩
   ·have hz2:(0:Int)< (l.length:Int):=by omega
    clear hz
    gi_wp2
    refine M0 (L6 rfl _ _ _) rfl ?_
    exact⟨⟨_,rfl⟩,.inl HI2.out⟩
end
section
open Go.Shelf
attribute [local go_sem] Oper.semAt_some
theorem zh (e:Ent) (w:World):Calls prog 271 #[.agg #[.int .i64 e.key,.int .i64 e.val,.bool e.dead]] w fun r w'=>r= .returned (.bool (!e.dead))/\Below w.heap.size w w':=by
 go_enter func271,ntmps271
 go_wp2
 go_ret
 exact⟨rfl,(KR _ _).alloc (KS _) _⟩
theorem Bu (e:Ent) (w:World):Calls prog 272 #[.agg #[.int .i64 e.key,.int .i64 e.val,.bool e.dead]] w fun r w'=>r= .returned (.agg #[.int .i64 e.key,.int .i64 e.val])/\Below w.heap.size w w':=by
 go_enter func272,ntmps272
 go_wp2_with fail
 refine KV (v:= .agg #[.int .i64 e.key,.int .i64 e.val]) (by simp[results,results272,go_sem]) rfl ⟨rfl,?_⟩
 exact((KR _ _).alloc (KS _) _).alloc (by simp) _
theorem Kb {B:Nat} {a b c:World} (h:Below B a b) (k:Below b.heap.size b c) (hB:B<=b.heap.size:=by omega):Below B a c:=h.trans (k.mono hB)
theorem xC (A:Option Addr) (n c:Nat) (x:Nat) (w:World):
  Calls prog 284 #[.agg #[.slice A n c],.int .i64 (x:Nat)] w fun r w'=>
   r= .returned (.func (.func 291) #[] #[.pointer (some ⟨w.heap.size,0,none⟩),.pointer (some ⟨w.heap.size+1,0,none⟩)])/\w'=(w.alloc (.cells #[.slice A n c] 145)).alloc (.cells #[.int .i64 (x:Nat)] 3):=by
 go_enter func284,ntmps284
 go_wp2
 go_ret
 exact⟨rfl,rfl⟩
theorem BD (n:Nat) (hn:n<=65536) (w:World):Calls prog 283 #[.int .i64 (n:Nat),.int .i64 0] w fun r w'=>∃e:Int,r= .returned (.tuple #[.int .i64 ((ai n 0).getD 0 0:Nat),.int .i64 e])/\Below w.heap.size w w':=by
 by_cases h:n=0
 ·subst h
  refine(zI w).mono ?_
  rintro r w' ⟨rfl,hb⟩
  exact⟨2,by simp[ai],hb⟩
 ·refine(E8 n 0 hn (by omega) w).mono ?_
  rintro r w' ⟨rfl,hb⟩
  exact⟨0,rfl,hb⟩
structure R8 (A2:World) (S o:Nat) (e:Ent) (q:List Pr) (c':Nat) (A':Option Addr) (L:Nat->Bool) (t31 t32 t33 t34 t35 t36:Value) (W:World):Prop where
 d6:L 6=true->L 5=true
 d5:L 5=true->L 0=true/\L 4=true
 d4:L 4=true->L 3=true
 d3:L 3=true->L 1=true/\L 2=true
 h0:L 0=true->t31= .slice A' q.length c'
 h1:L 1=true->t32= .func (.func 272) #[] #[]
 h2:L 2=true->t33= .agg #[.int .i64 e.key,.int .i64 e.val,.bool false]
 h3:L 3=true->t34= .agg #[.int .i64 e.key,.int .i64 e.val]
 h4:L 5=false->L 4=true->∃gs,t35= .slice (some ⟨gs,0,none⟩) 1 1/\Sl W (some ⟨gs,0,none⟩) [.int .i64 e.key,.int .i64 e.val]
 hb:L 5=false->Below A2.heap.size A2 W
 h5:L 6=false->L 5=true->∃A3 c3,t36= .slice A3 (q.length+1) c3/\W.ownsRow S 55 2 (.slice A3 (q.length+1) c3) (q.length+1) ((q++[(⟨e.key,e.val⟩:Pr)]).flatMap Pr.cells)/\Mod (fun b=>S<=b) A2 W
 h7:L 6=true->∃A3 c3,W.ownsRow S 55 2 (.slice A3 (q.length+1) c3) (q.length+1) ((q++[(⟨e.key,e.val⟩:Pr)]).flatMap Pr.cells)/\Blk W o 47 #[.slice A3 (q.length+1) c3]/\Mod (fun b=>b=o∨S<=b) A2 W
theorem sP {b:Bool} (h:¬b=true):b=false:=by simpa using h
theorem JQ (A:Option Addr) (l:List Ent) (c:Nat) (w:World) (hA:Sl w A (l.flatMap Ent.cells)) (hC:bJ l=0):
  Calls prog 270 #[.agg #[.slice A l.length c],.func (.func 271) #[] #[],.func (.func 272) #[] #[]] w fun r w'=>
   ∃A' c',r= .returned (.tuple #[.slice A' (au (dx l)).length c',.int .i64 0])/\w'.ownsRow w.heap.size 55 2 (.slice A' (au (dx l)).length c') (au (dx l)).length ((au (dx l)).flatMap Pr.cells)/\Below w.heap.size w w':=by
 have hl:=(kK hC).2.2
 have HC:=KO hC
 have HA:=KO hA
 clear hC hA
 refine bD (_F:=Fence.wide) ?_
 have hdd:∀k:Nat,(Fence.wide.depth.isSome=true->1<=k):=fun k h=>by cases h
 have hwf:∀f,Fence.wide.fn f:=fun _=>trivial
 have hdp:Fence.wide.depth=none:=rfl
 have hro:Fence.wide.round=none:=rfl
 obtain⟨W0,hW0⟩:∃W0,(((w.alloc (.cells #[.slice A l.length c] 145)).alloc (.cells #[.func (.func 271) #[] #[]] 310)).alloc (.cells #[.func (.func 272) #[] #[]] 311)).alloc (.cells #[.slice none 0 0] 47)=W0:=⟨_,rfl⟩
 have hb0:Below w.heap.size w W0:=by
  rw[<-hW0];exact((((KR _ w).alloc (KS _) _).alloc (by simp) _).alloc (by simp;omega) _).alloc (by simp;omega) _
 have hs0:W0.heap.size=w.heap.size+4:=by rw[<-hW0];simp
 have k3:Blk W0 w.heap.size 145 #[.slice A l.length c]:=by rw[<-hW0];exact(((Blk.new w _ _).alloc _).alloc _).alloc _
 have k4:Blk W0 (w.heap.size+1) 310 #[.func (.func 271) #[] #[]]:=by
  rw[<-hW0]
  have:=Blk.new (w.alloc (.cells #[.slice A l.length c] 145)) 310 #[.func (.func 271) #[] #[]]
  rw[KX]at this
  exact(this.alloc _).alloc _
 have k5:Blk W0 (w.heap.size+1+1) 311 #[.func (.func 272) #[] #[]]:=by
  rw[<-hW0]
  have:=Blk.new ((w.alloc (.cells #[.slice A l.length c] 145)).alloc (.cells #[.func (.func 271) #[] #[]] 310)) 311 #[.func (.func 272) #[] #[]]
  rw[KX,KX]at this
  exact this.alloc _
 have k6:Blk W0 (w.heap.size+1+1+1) 47 #[.slice none 0 0]:=by
  rw[<-hW0]
  have:=Blk.new (((w.alloc (.cells #[.slice A l.length c] 145)).alloc (.cells #[.func (.func 271) #[] #[]] 310)).alloc (.cells #[.func (.func 272) #[] #[]] 311)) 47 #[.slice none 0 0]
  rwa [KX,KX,KX]at this
 have c3:W0.cell? ⟨w.heap.size,0,none⟩=some (.slice A l.length c):=k3.cell 0
 have K:=KO (KW k3 (KW k4 (KW k5 k6)))
 clear k3 k4 k5 k6
 refine MV func270 rfl (hwf _) ?_ hro
 simp only[ntmps270,Ll,List.length_cons,List.length_nil,LD,LF,Array.replicate_succ,Array.replicate_zero,Mq,Me,LA,Mr]
 gi_wp2_with fail
 try rw[hW0]
 clear hW0
 (try first|refine⟨hdp,?_⟩|refine⟨hdd _,?_⟩)
 refine(callsIn_wide.2 (jI A l c _ (HA.out.below hb0) (by omega))).mono ?_
 rw[HC.out]
 rintro e w1 ⟨rfl,hb1⟩
 have hb01:=aa hb0 hb1
 have k3:=K.out.1.below hb1 K.out.1.lt
 clear c3
 have c3:w1.cell? ⟨w.heap.size,0,none⟩=some (.slice A l.length c):=k3.cell 0
 have hs1:w.heap.size+4<=w1.heap.size:=by have:=hb1.size;omega
 gi_wp2_with fail
 (try first|refine⟨hdp,?_⟩|refine⟨hdd _,?_⟩)
 obtain⟨p0,hp0⟩:∃p0,(ai l.length 0).getD 0 0=p0:=⟨_,rfl⟩
 refine(callsIn_wide.2 (BD l.length hl _)).mono ?_
 rw[hp0]
 have HP0:=KO hp0
 clear hp0
 rintro e w2 ⟨e0,rfl,hb2⟩
 have hb02:=aa hb01 hb2
 have k3':=k3.below hb2 k3.lt
 clear c3
 have c3:w2.cell? ⟨w.heap.size,0,none⟩=some (.slice A l.length c):=k3'.cell 0
 have hs2:w.heap.size+4<=w2.heap.size:=by have:=hb2.size;omega
 gi_wp2_with fail
 (try first|refine⟨hdp,?_⟩|refine⟨hdd _,?_⟩)
 refine(callsIn_wide.2 (xC A l.length c _ _)).mono ?_
 rintro e w3 ⟨rfl,rfl⟩
 gi_wp2_with fail
 obtain⟨W3,hW3⟩:∃W3,(w2.alloc (.cells #[.slice A l.length c] 145)).alloc (.cells #[.int .i64 (p0:Nat)] 3)=W3:=⟨_,rfl⟩
 have hb3:Below w2.heap.size w2 W3:=by rw[<-hW3];exact((KR _ _).alloc (KS _) _).alloc (by simp) _
 have m1:Blk W3 w2.heap.size 145 #[.slice A l.length c]:=by rw[<-hW3];exact(Blk.new _ _ _).alloc _
 have m2:Blk W3 (w2.heap.size+1) 3 #[.int .i64 (p0:Nat)]:=by
  rw[<-hW3]
  have:=Blk.new (w2.alloc (.cells #[.slice A l.length c] 145)) 3 #[.int .i64 (p0:Nat)]
  rwa [KX]at this
 have hs3:W3.heap.size=w2.heap.size+2:=by rw[<-hW3];simp
 rw[hW3]
 clear hW3
 have hb03:=aa hb02 hb3
 have hA3:=HA.out.below hb03
 have hA3lt:l.length≠0->∀a,A=some a->a.block< w.heap.size:=by
  intro h0l a ha
  obtain⟨b,off,h1,h2,_⟩:=HA.out.ent 0 (by omega)
  rw[h1]at ha;cases ha;show b< _;omega
 have h1w:=hb1.size
 have n4:=K.out.2.1.below (aa hb1 (aa hb2 hb3)) K.out.2.1.lt
 have n5:=K.out.2.2.1.below (aa hb1 (aa hb2 hb3)) K.out.2.2.1.lt
 have n6:=K.out.2.2.2.below (aa hb1 (aa hb2 hb3)) K.out.2.2.2.lt
 rw[<-HP0.out]at m2
 obtain⟨g,hg⟩:∃g,w.heap.size=g:=⟨_,rfl⟩
 obtain⟨B1,hB1⟩:∃B1,w2.heap.size=B1:=⟨_,rfl⟩
 rw[hB1]at m1 m2 hs3 hs2 ⊢
 rw[hg]at n4 n5 n6 hb03 hs2 hA3lt ⊢
 have HF:=KO (KW hb03 hg)
 clear hb0 hb01 hb02 hb1 hb2 hb3 k3 k3' c3 hs1 hs0 hB1 h1w
 refine ng hdp hwf hro rfl (enters_of func291 (by kernel_rfl) rfl)
  (wR B1 (B1+1) A l c hl W3 (m1.cell 0) m2 (by omega) hA3 (fun h a ha=>by have:=hA3lt h a ha;omega))
  (by rintro b (rfl|rfl|⟨h,a,ha,rfl⟩) <;> first|omega|(have:=hA3lt h a ha;omega)) (by rintro b rfl;omega) (fun _=>rfl)
  (fun k W=>∃A' c',Hid (Blk W (g+1) 310 #[.func (.func 271) #[] #[]]/\Blk W (g+1+1) 311 #[.func (.func 272) #[] #[]]/\
   Blk W (g+1+1+1) 47 #[.slice A' (au ((dx l).take k)).length c']/\W.ownsRow (W3.heap.size+2) 55 2 (.slice A' (au ((dx l).take k)).length c') (au ((dx l).take k)).length ((au ((dx l).take k)).flatMap Pr.cells)/\Below g w W))
  (fun _ _=>False) ?stab (fun _ _ _ h _=>h) ?start
  (fun k a' W=>∃gy,a'=⟨#[.agg #[.slice A l.length c],.func (.func 271) #[] #[],.func (.func 272) #[] #[],.pointer (some ⟨g,0,none⟩),.pointer (some ⟨g+1,0,none⟩),.pointer (some ⟨g+1+1,0,none⟩),.pointer (some ⟨g+1+1+1,0,none⟩),.int .i64 0,.int .i64 0,.int .i64 (p0:Nat),.int .i64 e0,.pointer (some ⟨gy,0,none⟩),.agg #[.slice A l.length c],.int .i64 0,.int .i64 0,.bool false,undef,.tuple #[.int .i64 (p0:Nat),.int .i64 e0],.pointer (some ⟨g,0,none⟩),.slice A l.length c,.int .i64 (l.length:Nat),.tuple #[.int .i64 (p0:Nat),.int .i64 e0],.int .i64 (p0:Nat),.int .i64 e0,.agg #[.slice A l.length c],.int .i64 (p0:Nat),.func (.func 291) #[] #[.pointer (some ⟨B1,0,none⟩),.pointer (some ⟨B1+1,0,none⟩)],(EJ l k).getD 0 undef,undef,undef,undef,undef,undef,undef,undef,undef,undef,undef],[]⟩/\Hid (Blk W gy 183 #[.int .i64 (jM l k).key,.int .i64 (jM l k).val,.bool (jM l k).dead]/\W3.heap.size+2<=gy))
  ?stabx ?assign ?body ?done (fun _ _ h _=>h.elim)
 case start=>exact⟨none,0,n4,n5,n6,Li _ _ _ _,hb03⟩
 case stab=>
  rintro k A1 B ⟨A',c',h⟩ hm
  obtain⟨h4,h5,h6,ho,hb⟩:=h.out
  have h6l:=h6.lt
  refine⟨A',c',h4.mod hm (by omega),h5.mod hm (by omega),h6.mod hm (by omega),di ho hm (by intro k hk;omega),hb.trans (hm.below (by omega) (by intro k hk;omega))⟩
 case stabx=>
  rintro k a' A1 B ⟨gy,rfl,h⟩ hm
  obtain⟨hy,hgy⟩:=h.out
  exact⟨gy,rfl,hy.mod hm (by omega),hgy⟩
 case assign=>
  intro y k hk A1 C hi hsz hC
  simp only[EJ]at hC ⊢
  gi_wp2
  refine hC _ _ ((Mod.refl _ _).alloc _) ?_ ⟨A1.heap.size,rfl,Blk.new _ _ _,hsz⟩
  obtain⟨A',c',h⟩:=hi
  obtain⟨h4,h5,h6,ho,hb⟩:=h.out
  exact⟨A',c',h4.alloc _,h5.alloc _,h6.alloc _,ho.alloc _,hb.alloc (by omega) _⟩
 case body=>
  rintro y k hk a' A1 hi ⟨gy,rfl,hy⟩ hsz
  obtain⟨A',c',h⟩:=hi
  obtain⟨h4,h5,h6,ho,hb⟩:=h.out
  obtain⟨hyb,hgy⟩:=hy.out
  have hkl:k< (dx l).length:=by rw[aG];exact hk
  have hpl:au ((dx l).take (k+1))=au ((dx l).take k)++(if (jM l k).dead=true then[]else[⟨(jM l k).key,(jM l k).val⟩]):=by
   have hg1:(dx l)[k]'hkl=jM l k:=by unfold jM;rw[Lf,K7 hkl];rfl
   unfold au
   rw[lM hkl,hg1]
   split <;> simp
  have hql:(au ((dx l).take k)).length<=k:=by unfold au;rw[List.length_map];have:=gF ((dx l).take k);simp at this;omega
  obtain⟨e,he⟩:∃e,jM l k=e:=⟨_,rfl⟩
  obtain⟨q,hq⟩:∃q,au ((dx l).take k)=q:=⟨_,rfl⟩
  rw[he]at hyb hpl
  rw[hq]at h6 ho hpl hql
  have HPL:=KO hpl
  have HE:=KO he
  simp only[EJ]
  rw[show(#[Value.agg #[.int .i64 (jM l k).key,.int .i64 (jM l k).val,.bool (jM l k).dead]]:Array Value).getD 0 undef= .agg #[.int .i64 (jM l k).key,.int .i64 (jM l k).val,.bool (jM l k).dead]from rfl,HE.out]
  clear he hq hpl h hy
  have c4:A1.cell? ⟨g+1,0,none⟩=some (.func (.func 271) #[] #[]):=h4.cell 0
  have y0:A1.cell? ⟨gy,0,none⟩=some (.int .i64 e.key):=hyb.cell 0
  have y1:A1.cell? ⟨gy,1,none⟩=some (.int .i64 e.val):=hyb.cell 1
  have y2:A1.cell? ⟨gy,2,none⟩=some (.bool e.dead):=hyb.cell 2
  have HIV:=KO (KW h4 (KW h5 (KW h6 (KW ho hb))))
  have HYB:=KO hyb
  clear h4 h5 h6 ho hb hyb
  gi_wp2_with fail
  (try first|refine⟨hdp,?_⟩|refine⟨hdd _,?_⟩)
  refine(mD y (callsIn_wide.2 (zh e _))).mono ?_
  rintro ee A2 ⟨rfl,hbA⟩
  have h4:=HIV.out.1.below hbA HIV.out.1.lt
  have h5:=HIV.out.2.1.below hbA HIV.out.2.1.lt
  have h6:=HIV.out.2.2.1.below hbA HIV.out.2.2.1.lt
  have ho:=own_below HIV.out.2.2.2.1 hbA
  have hb:=Kb HIV.out.2.2.2.2 hbA
  have hyb:=HYB.out.below hbA HYB.out.lt
  have hmd:∀S:Nat->Prop,Mod S A1 A2:=fun S=>Mod.of_ext hbA
  clear c4 y0 y1 y2
  cases hd:e.dead with
  |true=>
   have HQ:Hid (au ((dx l).take (k+1))=q):=by show _=_;rw[HPL.out,hd];simp
   have HI2:=KO (KW h4 (KW h5 (KW h6 (KW ho hb))))
   have HMD:=KO (hmd (fun b=>b≠W3.heap.size/\b≠W3.heap.size+1/\¬(b=B1∨b=B1+1∨(l.length≠0/\∃a,A=some a/\b=a.block))))
   clear h4 h5 h6 ho hb hyb hmd
   gi_wp2
   exact⟨HMD.out,A',c',by rw[HQ.out];exact HI2.out⟩
  |false=>
   have HP2:Hid (∀W,Calls prog 272 #[.agg #[.int .i64 e.key,.int .i64 e.val,.bool false]] W fun r w'=>r= .returned (.agg #[.int .i64 e.key,.int .i64 e.val])/\Below W.heap.size W w'):=by
    show∀_,_
    intro W
    have h:=Bu e W
    rw[hd]at h
    exact h
   have HQ:Hid (au ((dx l).take (k+1))=q++[(⟨e.key,e.val⟩:Pr)]):=by show _=_;rw[HPL.out,hd];simp
   gi_wp2_with fail
   have H6:=KO h6
   have H5:=KO h5
   have HYB:=KO hyb
   have HO:=KO ho
   have hsz2:W3.heap.size+2<=A2.heap.size:=Nat.le_trans hsz hbA.size
   have H4:=KO h4
   have HBG:=KO hb
   have HBA:=KO hbA
   obtain⟨ti0,hti⟩:=LU II
   have HI:=KO hti
   clear h4 h5 h6 ho hb hyb hmd hti hbA
   refine dY (by kernel_rfl) (by kernel_rfl) (fun L a W=>∃t31 t32 t33 t34 t35 t36:Value,a=⟨#[.agg #[.slice A l.length c],.func (.func 271) #[] #[],.func (.func 272) #[] #[],.pointer (some ⟨g,0,none⟩),.pointer (some ⟨g+1,0,none⟩),.pointer (some ⟨g+1+1,0,none⟩),.pointer (some ⟨g+1+1+1,0,none⟩),.int .i64 0,.int .i64 0,.int .i64 (p0:Nat),.int .i64 e0,.pointer (some ⟨gy,0,none⟩),.agg #[.slice A l.length c],.int .i64 0,.int .i64 0,.bool false,undef,.tuple #[.int .i64 (p0:Nat),.int .i64 e0],.pointer (some ⟨g,0,none⟩),.slice A l.length c,.int .i64 (l.length:Nat),.tuple #[.int .i64 (p0:Nat),.int .i64 e0],.int .i64 (p0:Nat),.int .i64 e0,.agg #[.slice A l.length c],.int .i64 (p0:Nat),.func (.func 291) #[] #[.pointer (some ⟨B1,0,none⟩),.pointer (some ⟨B1+1,0,none⟩)],.agg #[.int .i64 e.key,.int .i64 e.val,.bool false],.func (.func 271) #[] #[],.agg #[.int .i64 e.key,.int .i64 e.val,.bool false],.bool true,t31,t32,t33,t34,t35,t36,undef],[]⟩/\R8 A2 (W3.heap.size+2) (g+1+1+1) e q c' A' L t31 t32 t33 t34 t35 t36 W) ?h0 ?hstep ?hend
   case h0=>
    have no:∀{X:Prop},(fun _:Nat=>false) 0=true->X:=fun h=>absurd h KP
    exact⟨undef,undef,undef,undef,undef,undef,rfl,no,no,no,no,no,no,no,no,fun _ h=>no h,fun _=>(KR _ _).drew,fun _ h=>no h,no⟩
   case hend=>
    rintro L a W hall ⟨t31,t32,t33,t34,t35,t36,rfl,hR⟩
    obtain⟨A3,c3,ho3,hb3,hm3⟩:=hR.h7 (hall 6 (by decide))
    have hm1:Mod (fun b=>b=g+1+1+1∨W3.heap.size+2<=b) A1 W:=(Mod.of_ext HBA.out).trans hm3
    have n4:=H4.out.mod hm3 (by omega)
    have n5:=H5.out.mod hm3 (by omega)
    have nb:Below g w W:=HBG.out.trans (hm3.below (by omega) (by intro k hk;omega))
    have hfin:xL W3.heap.size (fun b=>b=B1∨b=B1+1∨(l.length≠0/\∃a,A=some a/\b=a.block)) (fun W=>∃A' c',Hid (Blk W (g+1) 310 #[.func (.func 271) #[] #[]]/\Blk W (g+1+1) 311 #[.func (.func 272) #[] #[]]/\
      Blk W (g+1+1+1) 47 #[.slice A' (au ((dx l).take (k+1))).length c']/\W.ownsRow (W3.heap.size+2) 55 2 (.slice A' (au ((dx l).take (k+1))).length c') (au ((dx l).take (k+1))).length ((au ((dx l).take (k+1))).flatMap Pr.cells)/\Below g w W)) (fun _ _=>False) A1 .normal ⟨#[.agg #[.slice A l.length c],.func (.func 271) #[] #[],.func (.func 272) #[] #[],.pointer (some ⟨g,0,none⟩),.pointer (some ⟨g+1,0,none⟩),.pointer (some ⟨g+1+1,0,none⟩),.pointer (some ⟨g+1+1+1,0,none⟩),.int .i64 0,.int .i64 0,.int .i64 (p0:Nat),.int .i64 e0,.pointer (some ⟨gy,0,none⟩),.agg #[.slice A l.length c],.int .i64 0,.int .i64 0,.bool false,undef,.tuple #[.int .i64 (p0:Nat),.int .i64 e0],.pointer (some ⟨g,0,none⟩),.slice A l.length c,.int .i64 (l.length:Nat),.tuple #[.int .i64 (p0:Nat),.int .i64 e0],.int .i64 (p0:Nat),.int .i64 e0,.agg #[.slice A l.length c],.int .i64 (p0:Nat),.func (.func 291) #[] #[.pointer (some ⟨B1,0,none⟩),.pointer (some ⟨B1+1,0,none⟩)],.agg #[.int .i64 e.key,.int .i64 e.val,.bool false],.func (.func 271) #[] #[],.agg #[.int .i64 e.key,.int .i64 e.val,.bool false],.bool true,t31,t32,t33,t34,t35,t36,undef],[]⟩ W:=by
     refine⟨hm1.mono (fun b hb1 hb2=>?_),A3,c3,n4,n5,?_,?_,nb⟩
     ·rcases hb2 with rfl|hb2
      ·refine⟨by omega,by omega,?_⟩
       rintro(h|h|⟨h,a,ha,h2⟩)
       ·omega
       ·omega
       ·have:=hA3lt h a ha;omega
      ·refine⟨by omega,by omega,?_⟩
       rintro(h|h|⟨h,a,ha,h2⟩)
       ·omega
       ·omega
       ·have:=hA3lt h a ha;omega
     ·rw[HQ.out,List.length_append];exact hb3
     ·rw[HQ.out,List.length_append];exact ho3
    exact hfin
   case hstep=>
    rintro L a W i o' ho' hLi hdep ⟨t31,t32,t33,t34,t35,t36,rfl,hR⟩
    have HR:=KO hR
    have HL:=KO hLi
    match i,ho' with
    |0,ho'=>
     obtain rfl:=KQ ho'
     have l5:L 5=false:=sP (fun h=>absurd (hR.d5 h).1 (by rw[HL.out];exact KP))
     have hbW:=hR.hb l5
     have k6:=H6.out.below hbW H6.out.lt
     have cc:W.cell? ⟨g+1+1+1,0,none⟩=some (.slice A' q.length c'):=k6.cell 0
     clear k6
     refine Le rfl (fun K1 hK1=>?_)
     have hK:=KO hK1
     clear hK1 hR hLi hdep
     gi_wp2_with fail
     exact hK.out _ _ ⟨_,_,_,_,_,_,rfl,(fun h=>by simpa using HR.out.d6 (by simpa using h)),(fun h=>by have h2:=HR.out.d5 (by simpa using h);exact⟨by first|rfl|(simpa using h2.1),by first|rfl|(simpa using h2.2)⟩),(fun h=>by have h2:=HR.out.d4 (by simpa using h);first|rfl|(simpa using h2)),(fun h=>by have h2:=HR.out.d3 (by simpa using h);exact⟨by first|rfl|(simpa using h2.1),by first|rfl|(simpa using h2.2)⟩),(fun _=>rfl),(fun h=>HR.out.h1 (by simpa using h)),(fun h=>HR.out.h2 (by simpa using h)),(fun h=>HR.out.h3 (by simpa using h)),(fun h h'=>HR.out.h4 (by simpa using h) (by simpa using h')),(fun h=>HR.out.hb (by simpa using h)),(fun h h'=>HR.out.h5 (by simpa using h) (by simpa using h')),(fun h=>HR.out.h7 (by simpa using h))⟩
    |1,ho'=>
     obtain rfl:=KQ ho'
     have l5:L 5=false:=sP (fun h=>absurd (hR.d3 (hR.d4 (hR.d5 h).2)).1 (by rw[HL.out];exact KP))
     have hbW:=hR.hb l5
     have k5:=H5.out.below hbW H5.out.lt
     have cc:W.cell? ⟨g+1+1,0,none⟩=some (.func (.func 272) #[] #[]):=k5.cell 0
     clear k5
     refine Le rfl (fun K1 hK1=>?_)
     have hK:=KO hK1
     clear hK1 hR hLi hdep
     gi_wp2_with fail
     exact hK.out _ _ ⟨_,_,_,_,_,_,rfl,(fun h=>by simpa using HR.out.d6 (by simpa using h)),(fun h=>by have h2:=HR.out.d5 (by simpa using h);exact⟨by first|rfl|(simpa using h2.1),by first|rfl|(simpa using h2.2)⟩),(fun h=>by have h2:=HR.out.d4 (by simpa using h);first|rfl|(simpa using h2)),(fun h=>by have h2:=HR.out.d3 (by simpa using h);exact⟨by first|rfl|(simpa using h2.1),by first|rfl|(simpa using h2.2)⟩),(fun h=>HR.out.h0 (by simpa using h)),(fun _=>rfl),(fun h=>HR.out.h2 (by simpa using h)),(fun h=>HR.out.h3 (by simpa using h)),(fun h h'=>HR.out.h4 (by simpa using h) (by simpa using h')),(fun h=>HR.out.hb (by simpa using h)),(fun h h'=>HR.out.h5 (by simpa using h) (by simpa using h')),(fun h=>HR.out.h7 (by simpa using h))⟩
    |2,ho'=>
     obtain rfl:=KQ ho'
     have l5:L 5=false:=sP (fun h=>absurd (hR.d3 (hR.d4 (hR.d5 h).2)).2 (by rw[HL.out];exact KP))
     have hbW:=hR.hb l5
     have ky:=HYB.out.below hbW HYB.out.lt
     have cc:W.cell? ⟨gy,0,none⟩=some (.int .i64 e.key):=ky.cell 0
     have cc1:W.cell? ⟨gy,1,none⟩=some (.int .i64 e.val):=ky.cell 1
     have cc2:W.cell? ⟨gy,2,none⟩=some (.bool e.dead):=ky.cell 2
     clear ky
     refine Le rfl (fun K1 hK1=>?_)
     have hK:=KO hK1
     clear hK1 hR hLi hdep
     gi_wp2_with fail
     exact hK.out _ _ ⟨_,_,_,_,_,_,rfl,(fun h=>by simpa using HR.out.d6 (by simpa using h)),(fun h=>by have h2:=HR.out.d5 (by simpa using h);exact⟨by first|rfl|(simpa using h2.1),by first|rfl|(simpa using h2.2)⟩),(fun h=>by have h2:=HR.out.d4 (by simpa using h);first|rfl|(simpa using h2)),(fun h=>by have h2:=HR.out.d3 (by simpa using h);exact⟨by first|rfl|(simpa using h2.1),by first|rfl|(simpa using h2.2)⟩),(fun h=>HR.out.h0 (by simpa using h)),(fun h=>HR.out.h1 (by simpa using h)),(fun _=>rfl),(fun h=>HR.out.h3 (by simpa using h)),(fun h h'=>HR.out.h4 (by simpa using h) (by simpa using h')),(fun h=>HR.out.hb (by simpa using h)),(fun h h'=>HR.out.h5 (by simpa using h) (by simpa using h')),(fun h=>HR.out.h7 (by simpa using h))⟩
    |3,ho'=>
     obtain rfl:=KQ ho'
     have dep1:L 1=true:=hdep ⟨1,.data⟩ (by simp) rfl
     have dep2:L 2=true:=hdep ⟨2,.data⟩ (by simp) rfl
     have l5:L 5=false:=sP (fun h=>absurd (hR.d4 (hR.d5 h).2) (by rw[HL.out];exact KP))
     have hbW:=hR.hb l5
     obtain rfl:=hR.h1 dep1
     obtain rfl:=hR.h2 dep2
     refine Le rfl (fun K1 hK1=>?_)
     have hK:=KO hK1
     clear hK1 hR hLi hdep
     gi_wp2_with fail
     (try first|refine⟨hdp,?_⟩|refine⟨hdd _,?_⟩)
     refine(mD y (callsIn_wide.2 (HP2.out _))).mono ?_
     rintro ee W5 ⟨rfl,hbc⟩
     gi_wp2_with fail
     exact hK.out _ _ ⟨_,_,_,_,_,_,rfl,(fun h=>by simpa using HR.out.d6 (by simpa using h)),(fun h=>by have h2:=HR.out.d5 (by simpa using h);exact⟨by first|rfl|(simpa using h2.1),by first|rfl|(simpa using h2.2)⟩),(fun h=>by have h2:=HR.out.d4 (by simpa using h);first|rfl|(simpa using h2)),(fun _=>⟨by simpa using dep1,by simpa using dep2⟩),(fun h=>HR.out.h0 (by simpa using h)),(fun h=>HR.out.h1 (by simpa using h)),(fun h=>HR.out.h2 (by simpa using h)),(fun _=>rfl),(fun _ h=>absurd (HR.out.d4 (by simpa using h)) (by rw[HL.out];exact KP)),(fun _=>aa hbW hbc),(fun _ h=>absurd (HR.out.d4 (HR.out.d5 (by simpa using h)).2) (by rw[HL.out];exact KP)),(fun h=>absurd (HR.out.d4 (HR.out.d5 (HR.out.d6 (by simpa using h))).2) (by rw[HL.out];exact KP))⟩
    |4,ho'=>
     obtain rfl:=KQ ho'
     have dep3:L 3=true:=hdep ⟨3,.data⟩ (by simp) rfl
     have l5:L 5=false:=sP (fun h=>absurd (hR.d5 h).2 (by rw[HL.out];exact KP))
     have hbW:=hR.hb l5
     obtain rfl:=hR.h3 dep3
     refine Le rfl (fun K1 hK1=>?_)
     have hK:=KO hK1
     clear hK1 hR hLi hdep
     gi_wp2_with fail
     exact hK.out _ _ ⟨_,_,_,_,_,_,rfl,(fun h=>by simpa using HR.out.d6 (by simpa using h)),(fun h=>by have h2:=HR.out.d5 (by simpa using h);exact⟨by first|rfl|(simpa using h2.1),by first|rfl|(simpa using h2.2)⟩),(fun _=>by simpa using dep3),(fun h=>by have h2:=HR.out.d3 (by simpa using h);exact⟨by first|rfl|(simpa using h2.1),by first|rfl|(simpa using h2.2)⟩),(fun h=>HR.out.h0 (by simpa using h)),(fun h=>HR.out.h1 (by simpa using h)),(fun h=>HR.out.h2 (by simpa using h)),(fun h=>HR.out.h3 (by simpa using h)),(fun _ _=>⟨_,rfl,df _ _ _⟩),(fun _=>hbW.alloc hbW.size _),(fun _ h=>absurd (HR.out.d5 (by simpa using h)).2 (by rw[HL.out];exact KP)),(fun h=>absurd (HR.out.d5 (HR.out.d6 (by simpa using h))).2 (by rw[HL.out];exact KP))⟩
    |5,ho'=>
     obtain rfl:=KQ ho'
     have dep0:L 0=true:=hdep ⟨0,.data⟩ (by simp) rfl
     have dep4:L 4=true:=hdep ⟨4,.data⟩ (by simp) rfl
     have hbW:=hR.hb hLi
     obtain rfl:=hR.h0 dep0
     obtain⟨gs,rfl,hsl⟩:=hR.h4 hLi dep4
     have how:=own_below HO.out hbW
     have hsw:=hbW.size
     refine Le rfl (fun K1 hK1=>?_)
     have hK:=KO hK1
     clear hK1 hR hLi hdep
     refine oF W rfl (.tmp 31) (.tmp 35) _ rfl (W3.heap.size+2) 55 ti0 _ 2 16 underlying47 HI.out.1 HI.out.2.1 HI.out.2.2.1 HI.out.2.2.2 rfl (by omega) (.slice A' q.length c') q.length _ (by rfl) how (some ⟨gs,0,none⟩) 1 1 [.int .i64 e.key,.int .i64 e.val] (by rfl) hsl rfl (by simp[K5]) (by unfold maxLen;omega) (by omega) (by omega) ?_
     intro v' w' hoA hgA
     obtain⟨A3,c3,rfl,_,_⟩:=ak hoA
     exact hK.out _ _ ⟨_,_,_,_,_,_,rfl,(fun _=>by simp),(fun _=>⟨by simpa using dep0,by simpa using dep4⟩),(fun h=>by have h2:=HR.out.d4 (by simpa using h);first|rfl|(simpa using h2)),(fun h=>by have h2:=HR.out.d3 (by simpa using h);exact⟨by first|rfl|(simpa using h2.1),by first|rfl|(simpa using h2.2)⟩),(fun h=>HR.out.h0 (by simpa using h)),(fun h=>HR.out.h1 (by simpa using h)),(fun h=>HR.out.h2 (by simpa using h)),(fun h=>HR.out.h3 (by simpa using h)),(fun h=>absurd h (by simp)),(fun h=>absurd h (by simp)),(fun _ _=>⟨A3,c3,rfl,by rw[List.flatMap_append];simpa[Pr.cells]using hoA,(Mod.of_ext hbW).grown hgA (fun k hk=> .inl (how.lt k hk).1)⟩),(fun h=>absurd (HR.out.d6 (by simpa using h)) (by rw[HL.out];exact KP))⟩
    |6,ho'=>
     obtain rfl:=KQ ho'
     have dep5:L 5=true:=hdep ⟨5,.data⟩ (by simp) rfl
     obtain⟨A3,c3,rfl,ho3,hm3⟩:=hR.h5 hLi dep5
     have k6:=H6.out.mod hm3 (by have:=H6.out.lt;omega)
     have cc:W.cell? ⟨g+1+1+1,0,none⟩=some (.slice A' q.length c'):=k6.cell 0
     have cf:W.frozen? ⟨g+1+1+1,0,none⟩=false:=k6.frozen 0
     have K6:=KO k6
     have HO3:=KO ho3
     have HM3:=KO hm3
     clear k6 ho3 hm3
     refine Le rfl (fun K1 hK1=>?_)
     have hK:=KO hK1
     clear hK1 hR hLi hdep
     gi_wp2_with fail
     exact hK.out _ _ ⟨_,_,_,_,_,_,rfl,(fun _=>by simpa using dep5),(fun h=>by have h2:=HR.out.d5 (by simpa using h);exact⟨by first|rfl|(simpa using h2.1),by first|rfl|(simpa using h2.2)⟩),(fun h=>by have h2:=HR.out.d4 (by simpa using h);first|rfl|(simpa using h2)),(fun h=>by have h2:=HR.out.d3 (by simpa using h);exact⟨by first|rfl|(simpa using h2.1),by first|rfl|(simpa using h2.2)⟩),(fun h=>HR.out.h0 (by simpa using h)),(fun h=>HR.out.h1 (by simpa using h)),(fun h=>HR.out.h2 (by simpa using h)),(fun h=>HR.out.h3 (by simpa using h)),(fun h=>absurd dep5 (by simp at h;simp[h])),(fun h=>absurd dep5 (by simp at h;simp[h])),(fun h=>absurd h (by simp)),(fun _=>⟨A3,c3,fe HO3.out (fun e=>by have:=(HO3.out.lt _ e).1;dsimp only at this;omega) _,by have:=K6.out.set_ 0 (.slice A3 (q.length+1) c3);simpa using this,(HM3.out.mono (fun _ _ h=> .inr h)).setCell (p:=⟨g+1+1+1,0,none⟩) (.inl rfl) _⟩)⟩
    |n+7,ho'=>exact absurd ho' (by simp)
 case done=>
  rintro W ⟨A',c',h⟩ hD
  have htk:(dx l).take l.length=dx l:=KZ (by rw[aG];exact KS _)
  rw[htk]at h
  obtain⟨h4,h5,h6,ho,hb⟩:=h.out
  have c6:W.cell? ⟨g+1+1+1,0,none⟩=some (.slice A' (au (dx l)).length c'):=h6.cell 0
  have f6:=h6.frozen 0
  have h6l:=h6.lt
  have h6s:Blk (W.setCell ⟨g+1+1+1,0,none⟩ (.slice A' (au (dx l)).length c')) (g+1+1+1) 47 #[.slice A' (au (dx l)).length c']:=by
   have:=h6.set_ 0 (.slice A' (au (dx l)).length c')
   simpa using this
  have HO:=KO (fe ho (p:=⟨g+1+1+1,0,none⟩) (fun e=>by have:=(ho.lt _ e).1;dsimp only at this;omega) (.slice A' (au (dx l)).length c'))
  have HBB:=KO (hb.setCell (p:=⟨g+1+1+1,0,none⟩) (by show g<=g+1+1+1;omega) (.slice A' (au (dx l)).length c'))
  have HD2:Hid ((W.setCell ⟨g+1+1+1,0,none⟩ (.slice A' (au (dx l)).length c')).heap[W3.heap.size]?=some (.deferred (some []))):=(Below.heap_setCell W ⟨g+1+1+1,0,none⟩ _ W3.heap.size (by show W3.heap.size≠g+1+1+1;omega)).trans hD
  obtain⟨W4,hW4⟩:∃W4,W.setCell ⟨g+1+1+1,0,none⟩ (.slice A' (au (dx l)).length c')=W4:=⟨_,rfl⟩
  rw[hW4]at h6s HO HBB HD2
  have hB6:Blk (W4.putObj W3.heap.size (.deferred none)) (g+1+1+1) 47 #[.slice A' (au (dx l)).length c']:=h6s.of (K9 (by omega))
  have e6:(W4.putObj W3.heap.size (.deferred none)).cell? ⟨g+1+1+1,0,none⟩=some (.slice A' (au (dx l)).length c'):=hB6.cell 0
  have HE6:=KO e6
  clear e6 hB6 h6s
  gi_wp2_with fail
  try rw[hW4]
  have e6:=HE6.out
  refine lK (v:= .tuple #[.slice A' (au (dx l)).length c',.int .i64 0]) HD2.out (by simp[results,results270,go_sem,e6]) ⟨A',c',rfl,?_,?_⟩
  ·rw[hg]
   exact av (di (Sx:=fun b=>b=W3.heap.size) HO.out (Mod.putObj (S:=fun b=>b=W3.heap.size) (Mod.refl _ _) rfl _) (fun k hk h=>by omega)) (by omega)
  ·rw[hg]
   exact HBB.out.trans ⟨rfl,rfl,rfl,by simp[World.putObj],fun k hk=>K9 (by omega)⟩
end
def Ip (l:List Ent):List Pr:=if bJ l=0 then au (dx l)else[]
def I7 (l:List Ent):Nat:=if bJ l=0 then(dD l).length else 0
def kN (m:List Pr) (e:Int) (w:World) (r:Ending) (w':World):Prop:=
 ∃A c,r= .returned (.tuple #[.slice A m.length c,.int .i64 e])/\w'.ownsRow w.heap.size 55 2 (.slice A m.length c) m.length (m.flatMap Pr.cells)/\Below w.heap.size w w'
theorem IX (A:Option Addr) (l:List Ent) (c:Nat) (w:World) (hA:Sl w A (l.flatMap Ent.cells)) (hl:l.length<=4611686018427387903) (hC:¬bJ l=0):
  Calls prog 270 #[.agg #[.slice A l.length c],.func (.func 271) #[] #[],.func (.func 272) #[] #[]] w (kN [] (bJ l) w):=by
 obtain⟨E,hE⟩:∃E,bJ l=E:=⟨_,rfl⟩
 rw[hE]at hC ⊢
 have HE:=KO hE
 have h1:(E !=0)=true:=by simpa using hC
 have HA:=KO hA
 refine bD (_F:=Fence.wide) ?_
 have hdd:∀k:Nat,(Fence.wide.depth.isSome=true->1<=k):=fun k h=>by cases h
 have hwf:∀f,Fence.wide.fn f:=fun _=>trivial
 have hdp:Fence.wide.depth=none:=rfl
 have hro:Fence.wide.round=none:=rfl
 obtain⟨W0,hW0⟩:∃W0,(((w.alloc (.cells #[.slice A l.length c] 145)).alloc (.cells #[.func (.func 271) #[] #[]] 310)).alloc (.cells #[.func (.func 272) #[] #[]] 311)).alloc (.cells #[.slice none 0 0] 47)=W0:=⟨_,rfl⟩
 have hb0:Below w.heap.size w W0:=by
  rw[<-hW0];exact((((KR _ w).alloc (KS _) _).alloc (by simp) _).alloc (by simp;omega) _).alloc (by simp;omega) _
 have k3:Blk W0 w.heap.size 145 #[.slice A l.length c]:=by rw[<-hW0];exact(((Blk.new w _ _).alloc _).alloc _).alloc _
 have k6:Blk W0 (w.heap.size+1+1+1) 47 #[.slice none 0 0]:=by
  rw[<-hW0]
  have:=Blk.new (((w.alloc (.cells #[.slice A l.length c] 145)).alloc (.cells #[.func (.func 271) #[] #[]] 310)).alloc (.cells #[.func (.func 272) #[] #[]] 311)) 47 #[.slice none 0 0]
  rwa [KX,KX,KX]at this
 have c3:W0.cell? ⟨w.heap.size,0,none⟩=some (.slice A l.length c):=k3.cell 0
 refine MV func270 rfl (hwf _) ?_ hro
 simp only[ntmps270,Ll,List.length_cons,List.length_nil,LD,LF,Array.replicate_succ,Array.replicate_zero,Mq,Me,LA,Mr]
 gi_wp2_with fail
 try rw[hW0]
 (try first|refine⟨hdp,?_⟩|refine⟨hdd _,?_⟩)
 refine(callsIn_wide.2 (jI A l c _ (HA.out.below hb0) hl)).mono ?_
 rw[HE.out]
 rintro e w1 ⟨rfl,hb1⟩
 have hb01:=aa hb0 hb1
 have k61:=k6.below hb1 k6.lt
 have c6:w1.cell? ⟨w.heap.size+1+1+1,0,none⟩=some (.slice none 0 0):=k61.cell 0
 have f6:=k61.frozen 0
 have e6:(w1.setCell ⟨w.heap.size+1+1+1,0,none⟩ (.slice none 0 0)).cell? ⟨w.heap.size+1+1+1,0,none⟩=some (.slice none 0 0):=(k61.set_ 0 _).cell 0
 gi_wp2_with fail
 refine⟨.tuple #[.slice none 0 0,.int .i64 E],by simp[results,results270,go_sem,e6],none,0,rfl,Li _ _ _ _,?_⟩
 exact hb01.setCell (p:=⟨w.heap.size+1+1+1,0,none⟩) (by show w.heap.size<=w.heap.size+1+1+1;omega) _
theorem DY (A:Option Addr) (l:List Ent) (c:Nat) (w:World) (hA:Sl w A (l.flatMap Ent.cells)) (hl:l.length<=4611686018427387903):
  Calls prog 264 #[.agg #[.slice A l.length c]] w (kN (Ip l) (bJ l) w):=by
 have hb0:Below w.heap.size w (w.alloc (.cells #[.slice A l.length c] 145)):=(KR _ _).alloc (KS _) _
 have hall:∀W,Below w.heap.size w W->Calls prog 270 #[.agg #[.slice A l.length c],.func (.func 271) #[] #[],.func (.func 272) #[] #[]] W (kN (Ip l) (bJ l) W):=by
  intro W hW
  by_cases hC:bJ l=0
  ·have h:=JQ A l c W (hA.below hW) hC
   have h2:Ip l=au (dx l):=by unfold Ip;rw[if_pos hC]
   rw[h2,hC]
   exact h
  ·have h2:Ip l=[]:=by unfold Ip;rw[if_neg hC]
   rw[h2]
   exact IX A l c W (hA.below hW) hl hC
 have HALL:=KO hall
 obtain⟨E,hE⟩:∃E,bJ l=E:=⟨_,rfl⟩
 obtain⟨m,hm⟩:∃m,Ip l=m:=⟨_,rfl⟩
 rw[hE,hm]
 rw[hE,hm]at HALL
 go_enter func264,ntmps264
 go_wp2_with fail
 refine(HALL.out _ hb0).mono ?_
 rintro e w1 ⟨A1,c1,rfl,ho1,hb1⟩
 have HO:=KO (av ho1 hb0.size)
 go_wp2
 refine KV (v:= .tuple #[.slice A1 m.length c1,.int .i64 E]) (by simp[results,results264,go_sem]) rfl ?_
 exact⟨A1,c1,rfl,HO.out,aa hb0 hb1⟩
theorem iL (A:Option Addr) (l:List Ent) (c:Nat) (w:World) (hA:Sl w A (l.flatMap Ent.cells)) (hl:l.length<=4611686018427387903):
  Calls prog 265 #[.agg #[.slice A l.length c]] w (iT (I7 l) (bJ l) w):=by
 have hb0:Below w.heap.size w (w.alloc (.cells #[.slice A l.length c] 145)):=(KR _ _).alloc (KS _) _
 have bX:=Blk.new w 145 #[.slice A l.length c]
 have HA:=KO hA
 obtain⟨E,hE⟩:∃E,bJ l=E:=⟨_,rfl⟩
 have HE:=KO hE
 rw[hE]
 obtain⟨N,hN⟩:∃N,I7 l=N:=⟨_,rfl⟩
 have HN:=KO hN
 rw[hN]
 clear hA hE hN
 go_enter func265,ntmps265
 go_wp2_with fail
 refine(jI A l c _ (HA.out.below hb0) hl).mono ?_
 rw[HE.out]
 rintro e w1 ⟨rfl,hb1⟩
 have hb01:=aa hb0 hb1
 have bX1:=bX.below hb1 bX.lt
 have c0:w1.cell? ⟨w.heap.size,0,none⟩=some (.slice A l.length c):=bX1.cell 0
 clear bX
 by_cases h0:E=0
 ·subst h0
  have HNL:Hid (N=(dD l).length):=by show _=_;rw[<-HN.out];unfold I7;rw[if_pos HE.out]
  go_wp2
  go_loopw [2,15] (fun v i wr=>∃k s:Nat,k<=l.length/\i= .int .i64 k/\v= .int .i64 s/\Below w1.heap.size w1 wr/\Hid (s=(dD (l.take k)).length)) (fun _ i _=>l.length-(intOf i).toNat)
  case atStart=>exact⟨0,0,K8 _,rfl,rfl,KR _ _,rfl⟩
  case round=>
   clear c0
   obtain⟨k,s,hk,rfl,rfl,hb,hs⟩:=hrel
   have hsk:s<=k:=by rw[hs.out];have:=gF (l.take k);simp at this;omega
   by_cases hlt:k< l.length
   ·obtain⟨b,off,rfl,hbl,c1,c2,c3⟩:=HA.out.entB (aa hb01 hb) k hlt
    have hls:=lM hlt
    obtain⟨x,hx⟩:∃x,l[k]'hlt=x:=⟨_,rfl⟩
    rw[hx]at c1 c2 c3 hls
    have i0:(0:Int)<=(k:Int):=by omega
    have i1:(k:Int)< (l.length:Int):=by omega
    have ba:Below wr.heap.size wr (wr.alloc (.cells #[.int .i64 x.key,.int .i64 x.val,.bool x.dead] 183)):=(KR _ _).alloc (KS _) _
    have HBA:=KO ba
    clear ba hx
    cases hd:x.dead
    ·rw[hd]at c3 hls HBA
     have HLS:Hid (s+1=(dD (l.take (k+1))).length):=by show _=_;rw[hls,hs.out];simp
     clear hls hd
     go_wp2_with fail
     go_roundw
     case rel=>exact⟨k+1,s+1,by omega,by go_num,by go_num,aa hb HBA.out,HLS⟩
     case measure=>simp[intOf];omega
    ·rw[hd]at c3 hls HBA
     have HLS:Hid (s=(dD (l.take (k+1))).length):=by show _=_;rw[hls,hs.out];simp
     clear hls hd
     go_wp2_with fail
     go_roundw
     case rel=>exact⟨k+1,s,by omega,by go_num,rfl,aa hb HBA.out,HLS⟩
     case measure=>simp[intOf];omega
   ·have HS:Hid (s=N):=by show _=_;rw[HNL.out,hs.out,KZ (by omega)]
    go_wp2
    refine KV (v:= .tuple #[.int .i64 (s:Nat),.int .i64 0]) (by simp[results,results265,go_sem]) rfl ?_
    rw[<-HS.out]
    exact⟨rfl,aa hb01 hb⟩
 ·have h1:(E !=0)=true:=by simpa using h0
  have HNL:Hid (N=0):=by show _=_;rw[<-HN.out];unfold I7;rw[HE.out,if_neg h0]
  clear h0 c0
  go_wp2
  refine KV (v:= .tuple #[.int .i64 0,.int .i64 E]) (by simp[results,results265,go_sem]) rfl ?_
  rw[HNL.out]
  exact⟨rfl,hb01⟩
def jK (rs:Lv):List Pr:=if fE rs=0 then au (oU rs)else[]
theorem oC (l:List Ent):dD (dD l)=dD l:=by unfold dD;rw[List.filter_filter];simp
theorem qY {rs:Lv}:(au (oU rs)).length=(oU rs).length:=by
 unfold au oU
 rw[List.length_map,oC]
theorem Ju {rs:Lv} (h:fE rs=0):Ip (mL rs true)=jK rs/\bJ (mL rs true)=0:=by
 have hm:=lN.1 h
 have h1:=JL true hm.mE
 refine⟨?_,h1⟩
 unfold Ip jK
 rw[if_pos h1,if_pos h,Kl true hm.mE]
 rfl
theorem vV {rs:Lv} (h:fE rs=0):(jK rs).length=(oU rs).length:=by unfold jK;rw[if_pos h,qY]
abbrev aB (Rs:List Rm):Lv:=Rs.map Rm.l
theorem dB (Rs:List Rm):(aB Rs).length=Rs.length:=by simp
theorem gH {Rs:List Rm} {k:Nat} (h:k< Rs.length):lev (aB Rs) k=(Rs[k]'h).l:=by rw[zt (by simpa using h)];simp
theorem jk {rs:Lv} {k:Nat} (h:k< rs.length):tot (rs.take (k+1))=tot (rs.take k)+(lev rs k).length:=by
 rw[Lc h,Gl,zt h]
theorem iU:∀(rs:Lv) (k:Nat),tot (rs.take k)<=tot rs
 |[],k=>by simp[tot]
 |l::rs,0=>by simp[tot]
 |l::rs,k+1=>by
  have:=iU rs k
  rw[List.take_succ_cons,nP,nP];omega
theorem GM (Rs:List Rm):tot (aB Rs)=(Rs.map (fun r=>r.l.length)).sum:=by unfold tot aB;rw[List.map_map];rfl
theorem DF {l:List Ent} (h:bJ l=0):I7 l=l.length↔gK l=false:=by
 unfold I7 gK
 rw[if_pos h]
 constructor
 ·intro he
  rw[List.any_eq_false]
  intro e hm
  have h1:dD l=l:=by
   unfold dD at he ⊢
   exact List.filter_eq_self.2 (fun a ha=>by
    have:=List.length_filter_eq_length_iff.1 he a ha
    exact this)
  rw[<-h1]at hm
  have:=(List.mem_filter.1 hm).2
  simpa using this
 ·intro hd
  rw[List.any_eq_false]at hd
  unfold dD
  congr 1
  exact List.filter_eq_self.2 (fun a ha=>by simpa using hd a ha)
theorem Gn {rs:Lv} {k:Nat} (h:k< rs.length) (hb:jo rs.length k (lev rs k)=false):fE rs=8:=by
 unfold fE
 rw[if_neg]
 unfold kg iN
 intro hx
 simp only[Lm,decide_eq_true_eq]at hx
 rw[hx.1.2 k h]at hb
 cases hb
theorem EU {rs:Lv} (h:ib rs=false):fE rs=8:=by unfold fE kg;rw[h];rfl
theorem Fe {rs:Lv} (h:ib rs=true) (h2:iN rs rs.length=true):fE rs=if 65536< tot rs then 8 else 0:=by
 unfold fE kg
 rw[h,h2]
 by_cases h3:65536< tot rs
 ·rw[if_pos h3,if_neg (by simp;omega)]
 ·rw[if_neg h3,if_pos (by simp;omega)]
theorem wO (B:Option Addr) (Rs:List Rm) (c:Nat) (n:Int) (w:World) (hB:RunsAt w B Rs) (hT:tot (aB Rs)<=1000000) (hl:Rs.length<=1000000):
  Calls prog 261 #[.agg #[.slice B Rs.length c,.int .u64 n]] w fun r w'=>r= .returned (.int .i64 (tot (aB Rs):Nat))/\Below w.heap.size w w':=by
 have hb0:Below w.heap.size w (w.alloc (.cells #[.slice B Rs.length c,.int .u64 n] 38)):=(KR _ _).alloc (KS _) _
 go_enter func261,ntmps261
 go_wp2
 go_loopw [2,8] (fun a i wr=>∃k m:Nat,k<=Rs.length/\i= .int .i64 k/\a= .int .i64 m/\Below w.heap.size w wr/\m<=1000000/\Hid (m=tot ((aB Rs).take k))) (fun _ i _=>Rs.length-(intOf i).toNat)
 case atStart=>exact⟨0,0,K8 _,rfl,rfl,hb0,by omega,rfl⟩
 case round=>
  obtain⟨k,m,hk,rfl,rfl,hb,hm,hd⟩:=hrel
  by_cases hlt:k< Rs.length
  ·obtain⟨b,off,rfl,hbl,cp⟩:=hB.sl.oneB hb k hlt
   have hs:=jk (rs:=aB Rs) (k:=k) (by simpa using hlt)
   rw[gH hlt]at hs
   have hle:=iU (aB Rs) (k+1)
   obtain⟨r,hr⟩:∃r,Rs[k]'hlt=r:=⟨_,rfl⟩
   rw[hr]at cp hs
   obtain⟨l,A,cl⟩:=r
   have cp1:wr.cell? ⟨b,off+k,none⟩=some (.slice A l.length cl):=cp
   dsimp only at hs
   have hki:(0:Int)<=(k:Int):=by omega
   have hki2:(k:Int)< (Rs.length:Int):=by omega
   have hsum:m+l.length<=1000000:=by have:=hd.out;omega
   have hw:IntKind.i64.wrap ((m:Int)+(l.length:Int))=((m+l.length:Nat):Int):=(KU _ (by omega)).trans (by omega)
   have HS:=KO hs
   have hbs:=hb.size
   clear cp hr hs hle
   go_wp2
   go_roundw
   case rel=>exact⟨k+1,m+l.length,by omega,by go_num,by go_num,hb.alloc hbs _,hsum,by show _=_;rw[HS.out,hd.out]⟩
   case measure=>simp[intOf];omega
  ·have hkn:k=Rs.length:=by omega
   have hf:m=tot (aB Rs):=by rw[hd.out,KZ (by simp;omega)]
   have HF:=KO hf
   clear hkn hf
   go_wp2
   go_ret
   exact⟨aJ (by rw[HF.out]),hb⟩
section
open Go.Maps
structure OwnRs (w:World) (B0:Nat) (B:Option Addr) (c:Nat) (Rs:List Rm):Prop where
 row:w.ownsRow B0 145 1 (.slice B Rs.length c) Rs.length (Rs.map Rm.v)
 ent:∀r∈Rs,w.ownsRow B0 183 3 r.v r.l.length (r.l.flatMap Ent.cells)
theorem Jy {w:World} {B0:Nat} {r:Rm} (h:w.ownsRow B0 183 3 r.v r.l.length (r.l.flatMap Ent.cells)):r.Ok w:=by
 obtain⟨A3,c3,h3,h4,h5⟩:=ak h
 obtain⟨ls,As,cs⟩:=r
 have h6:As=A3/\cs=c3:=by simpa[Rm.v]using h3
 obtain⟨rfl,rfl⟩:=h6
 exact⟨aA h,h4,h5⟩
theorem OwnRs.runsAt {w:World} {B0:Nat} {B:Option Addr} {c:Nat} {Rs:List Rm} (h:OwnRs w B0 B c Rs):RunsAt w B Rs:=⟨aA h.row,fun r hr=>Jy (h.ent r hr)⟩
theorem OwnRs.nil (w:World) (B0:Nat):OwnRs w B0 none 0 []:=⟨Li _ _ _ _,by simp⟩
theorem OwnRs.below {w w':World} {B0:Nat} {B:Option Addr} {c:Nat} {Rs:List Rm} (h:OwnRs w B0 B c Rs) (hb:Below w.heap.size w w'):OwnRs w' B0 B c Rs:=
 ⟨own_below h.row hb,fun r hr=>own_below (h.ent r hr) hb⟩
theorem OwnRs.mono {w:World} {B0 B1:Nat} {B:Option Addr} {c:Nat} {Rs:List Rm} (h:OwnRs w B0 B c Rs) (hb:B1<=B0):OwnRs w B1 B c Rs:=
 ⟨av h.row hb,fun r hr=>av (h.ent r hr) hb⟩
theorem OwnRs.alloc {w:World} {B0:Nat} {B:Option Addr} {c:Nat} {Rs:List Rm} (h:OwnRs w B0 B c Rs) (o:Obj):OwnRs (w.alloc o) B0 B c Rs:=
 ⟨h.row.alloc o,fun r hr=>(h.ent r hr).alloc o⟩
theorem xB {w:World} {g B s n:Nat} {t e:TypeId} {cur:Array Value} {v:Value} {xs:List Value} (hB:Blk w g t cur) (h:w.ownsRow B e s v n xs) (hne:e≠t) (i:Nat) (u:Value):(w.setCell ⟨g,i,none⟩ u).ownsRow B e s v n xs:=by
 refine⟨h.1,?_⟩
 rcases h.2 with h2|⟨k,cap,cur',rfl,hg,hh,r⟩
 ·exact .inl h2
 ·refine .inr ⟨k,cap,cur',rfl,hg,?_,r⟩
  refine(Below.heap_setCell w ⟨g,i,none⟩ u k ?_).trans hh
  intro e2
  have e3:k=g:=e2
  subst e3
  have:=hB.symm.trans hh
  simp at this
  exact hne this.2.symm
theorem OwnRs.setT {w:World} {B0 g:Nat} {B:Option Addr} {c:Nat} {Rs:List Rm} {t:TypeId} {cur:Array Value} (h:OwnRs w B0 B c Rs) (hB:Blk w g t cur) (h1:145≠t) (h2:183≠t) (i:Nat) (u:Value):OwnRs (w.setCell ⟨g,i,none⟩ u) B0 B c Rs:=
 ⟨xB hB h.row h1 i u,fun r hr=>xB hB (h.ent r hr) h2 i u⟩
theorem OwnRs.push {w w':World} {B0:Nat} {B A':Option Addr} {c c':Nat} {Rs:List Rm} (h:OwnRs w B0 B c Rs) (r:Rm) (hr:w.ownsRow B0 183 3 r.v r.l.length (r.l.flatMap Ent.cells))
  (ho:w'.ownsRow B0 145 1 (.slice A' (Rs.length+1) c') (Rs.length+1) (Rs.map Rm.v++[r.v])) (hg:w.grownBy w' (Value.slice B Rs.length c).ownBlock):OwnRs w' B0 A' c' (Rs++[r]):=by
 refine⟨?_,?_⟩
 ·rw[List.length_append,MR];exact ho
 ·intro s hs
  refine sN hg h.row ?_ (by decide)
  rcases List.mem_append.1 hs with hs|hs
  ·exact h.ent s hs
  ·obtain rfl:s=r:=by simpa using hs
   exact hr
def IB (ls:Lv) (w:World) (r:Ending) (w':World):Prop:=∃B c Rs,r= .returned (.slice B Rs.length c)/\aB Rs=ls/\OwnRs w' w.heap.size B c Rs/\Below w.heap.size w w'
def Cs (ls:Lv) (n:Int) (w:World) (r:Ending) (w':World):Prop:=∃B c Rs,r= .returned (.agg #[.slice B Rs.length c,.int .u64 n])/\aB Rs=ls/\OwnRs w' w.heap.size B c Rs/\Below w.heap.size w w'
theorem Bt (Rs Ts:List Rm):aB (Rs++Ts)=aB Rs++aB Ts:=by unfold aB;rw[MR]
end
section
section
variable {P:Program} (w:World)
end
theorem Blk.grown {w w':World} {g:Nat} {t:TypeId} {cs:Array Value} {row:Option Nat} (h:Blk w g t cs) (hg:w.grownBy w' row) (hne:row≠some g):Blk w' g t cs:=
 h.of (hg.block g h.lt (fun e=>hne e.symm))
theorem bI {w:World} {g g':Nat} {t t':TypeId} {cs cs':Array Value} (h:Blk w g t cs) (h':Blk w g' t' cs') (hne:t≠t'):g≠g':=by
 rintro rfl
 have:=h.symm.trans h'
 simp at this
 exact hne this.2
theorem Cx {w:World} {g B s n:Nat} {t e:TypeId} {cs:Array Value} {v:Value} {xs:List Value} (h:w.ownsRow B e s v n xs) (hB:Blk w g t cs) (hne:e≠t):v.ownBlock≠some g:=by
 rcases h.2 with⟨rfl,_⟩|⟨k,cap,cur,rfl,_,hk,_⟩
 ·simp[M9]
 ·intro e2
  have e3:k=g:=by simpa[M9]using e2
  subst e3
  have:=hk.symm.trans hB
  simp at this
  exact hne this.2
end
theorem uM:(prog.info? 145).map (fun i=>(i.zero,i.size,i.bytes))=some (some (.agg #[.slice none 0 0]),1,24):=by kernel_rfl
theorem JE {P:Prop} (h:P:=by
 obtain⟨te0,hI⟩:=LU uM
 have HI:=KO hI
 have HB:=KO hB
 have HHR:=KO hrs
 clear hI hB hrs
 go_enter func65,ntmps65
 go_wp2
 go_loopw [3,4] (fun v i wr=>∃(k:Nat) (Ts:List Rm) (A':Option Addr) (c':Nat),k<=Rs.length/\i= .int .i64 k/\Below w.heap.size w wr/\v= .slice A' k c'/\Hid (Ts.length=k)/\
  wr.ownsRow w.heap.size 145 1 (.slice A' k c') k (Ts.map Rm.v)/\(∀s∈Ts,wr.ownsRow w.heap.size 183 3 s.v s.l.length (s.l.flatMap Ent.cells))/\Hid (Ts.map Rm.l=(Rs.map Rm.l).take k)) (fun _ i _=>Rs.length-(intOf i).toNat)
 case atStart=>exact⟨0,[],none,0,K8 _,rfl,KR _ _,rfl,rfl,Li _ _ _ _,by simp,rfl⟩
 case round=>
  obtain⟨k,Ts,A',c',hk,rfl,hb,rfl,hTk,hown,hS,hin⟩:=hrel
  have hbs:=hb.size
  by_cases hlt:k< Rs.length
  ·obtain⟨b,off,rfl,hbl,cp⟩:=HB.out.sl.oneB hb k hlt
   have hok:=(HB.out.ok _ (Lh hlt)).below hb
   have hrl:=HHR.out _ (Lh hlt)
   have hin2:(Rs.map Rm.l).take (k+1)=(Rs.map Rm.l).take k++[(Rs[k]'hlt).l]:=by
    rw[Lc (by simpa using hlt)];simp
   obtain⟨r,hr⟩:∃r,Rs[k]'hlt=r:=⟨_,rfl⟩
   rw[hr]at cp hok hrl hin2
   obtain⟨l,A,cl⟩:=r
   have cp1:wr.cell? ⟨b,off+k,none⟩=some (.slice A l.length cl):=cp
   dsimp only at hrl hin2
   have hki:(0:Int)<=(k:Int):=by omega
   have hki2:(k:Int)< (Rs.length:Int):=by omega
   have HOK:=KO hok.sl
   have HIN:=KO hin2
   have HOW:=KO hown
   have HSS:=KO hS
   clear cp hr hok hin2 hown hS
   go_wp2_with fail
   refine(xz A l cl _ HOK.out hrl).mono ?_
   rintro e w1 ⟨A1,c1,rfl,ho1,hb1⟩
   have HO1:=KO (av (B':=w.heap.size) ho1 (by omega))
   have HOW1:=KO (own_below HOW.out hb1)
   have hs1:=hb1.size
   clear ho1 cp1
   go_wp2_with (at_builtin;refine ag _ rfl (.tmp 11) (.tmp 17) _ rfl w.heap.size 145 te0 _ 1 24 underlying36 HI.out.1 HI.out.2.1 HI.out.2.2.1 HI.out.2.2.2 rfl (by omega) (.slice A' k c') k _ rfl (HOW1.out.alloc _) _ 1 _ [.slice A1 l.length c1] rfl (by exact df _ _ _) rfl (by simp[K5]) (by unfold maxLen;omega) (by omega) (by simp;omega) ?_;intro v2 w2 hown2 hg2;obtain⟨A2,q2,rfl,hle2,hmx2⟩:=ak hown2;have HO2:=KO hown2;clear hown2)
   go_roundw
   case rel=>
    refine⟨k+1,Ts++[⟨l,A1,c1⟩],A2,q2,by omega,by go_num,?_,rfl,?_,?_,?_,?_⟩
    ·exact((aa hb hb1).alloc (by omega) _).grown hg2 (by simp;omega) (fun q hq=>(HOW1.out.lt q hq).1)
    ·show _=_
     rw[List.length_append,hTk.out];rfl
    ·rw[MR];exact HO2.out
    ·intro s hs
     refine sN hg2 (HOW1.out.alloc _) ?_ (by decide)
     rcases List.mem_append.1 hs with hs|hs
     ·exact(own_below (HSS.out s hs) hb1).alloc _
     ·obtain rfl:s=⟨l,A1,c1⟩:=by simpa using hs
      exact HO1.out.alloc _
    ·show _=_
     rw[MR,hin.out,HIN.out];rfl
   case measure=>simp[intOf];omega
  ·have hkn:k=Rs.length:=by omega
   have HIN:Hid (Ts.map Rm.l=Rs.map Rm.l):=by show _=_;rw[hin.out,KZ (by simp;omega)]
   have HTN:Hid (Ts.length=k):=hTk
   first
    |have mz:=mk0
     clear mz
     have hO:RunsAt wr A' Ts:=by
      refine⟨aA hown,fun s hs=>?_⟩
      have h1:=hS s hs
      obtain⟨A3,c3,h3,h4,h5⟩:=ak h1
      obtain⟨ls,As,cs⟩:=s
      have h6:As=A3/\cs=c3:=by simpa[Rm.v]using h3
      obtain⟨rfl,rfl⟩:=h6
      exact⟨aA h1,h4,h5⟩
    |have mz:=mk1;clear mz;have hO:OwnRs wr w.heap.size A' c' Ts:=⟨by rw[HTN.out];exact hown,hS⟩
   have HO:=KO hO
   clear hkn hO hown hS hin hTk
   go_wp2
   go_ret
   exact⟨A',c',Ts,by rw[HTN.out];rfl,HIN.out,HO.out,hb⟩):P:=h
theorem zG (B:Option Addr) (Rs:List Rm) (c:Nat) (w:World) (hB:RunsAt w B Rs) (hl:Rs.length<=1000000) (hrs:∀r∈Rs,r.l.length<=1000000):
  Calls prog 65 #[.slice B Rs.length c] w (IB (aB Rs) w):=by
 have mk1:=()
 exact JE
theorem Kg {w:World} {g:Nat} {t:TypeId} {x0 x1:Value} (h:Blk w g t #[x0,x1]) (y0 y1:Value):Blk ((w.setCell ⟨g,0,none⟩ y0).setCell ⟨g,1,none⟩ y1) g t #[y0,y1]:=by
 have:=(h.set_ 0 y0).set_ 1 y1
 simpa using this
theorem Gv {B:Nat} {a w:World} {g:Nat} (h:Below B a w) (hg:B<=g) (y0 y1:Value):Below B a ((w.setCell ⟨g,0,none⟩ y0).setCell ⟨g,1,none⟩ y1):=
 (h.setCell (p:=⟨g,0,none⟩) hg _).setCell (p:=⟨g,1,none⟩) hg _
theorem OwnRs.set2 {w:World} {B0 g:Nat} {B:Option Addr} {c:Nat} {Rs:List Rm} {t:TypeId} {x0 x1:Value} (h:OwnRs w B0 B c Rs) (hB:Blk w g t #[x0,x1]) (h1:145≠t) (h2:183≠t) (y0 y1:Value):OwnRs ((w.setCell ⟨g,0,none⟩ y0).setCell ⟨g,1,none⟩ y1) B0 B c Rs:=
 (h.setT hB h1 h2 0 y0).setT (hB.set_ 0 y0) h1 h2 1 y1
theorem AV (B:Option Addr) (Rs:List Rm) (c:Nat) (n:Int) (w:World) (hB:RunsAt w B Rs) (hl:Rs.length<=1000000) (hrs:∀r∈Rs,r.l.length<=1000000):
  Calls prog 52 #[.agg #[.slice B Rs.length c,.int .u64 n]] w (Cs (aB Rs) n w):=by
 obtain⟨W0,hW0⟩:∃W0,(w.alloc (.cells #[.slice B Rs.length c,.int .u64 n] 38)).alloc (.cells #[.slice none 0 0,.int .u64 0] 38)=W0:=⟨_,rfl⟩
 have hb0:Below w.heap.size w W0:=by rw[<-hW0];exact((KR _ _).alloc (KS _) _).alloc (by simp) _
 have b1:Blk W0 w.heap.size 38 #[.slice B Rs.length c,.int .u64 n]:=by rw[<-hW0];exact(Blk.new _ _ _).alloc _
 have b2:Blk W0 (w.heap.size+1) 38 #[.slice none 0 0,.int .u64 0]:=by
  rw[<-hW0]
  have:=Blk.new (w.alloc (.cells #[.slice B Rs.length c,.int .u64 n] 38)) 38 #[.slice none 0 0,.int .u64 0]
  rwa [KX]at this
 have hs0:W0.heap.size=w.heap.size+2:=by rw[<-hW0];simp
 have HW0:=KO hW0
 have HS0:=KO hs0
 have HB:=KO hB
 have HHR:=KO hrs
 clear hW0 hB hrs hs0
 go_enter func52,ntmps52
 go_upto_region 1 with fail
 rw[HW0.out]
 have l1:=b1.lt
 have l2:=b2.lt
 have c10:W0.cell? ⟨w.heap.size,0,none⟩=some (.slice B Rs.length c):=b1.cell 0
 have c11:W0.cell? ⟨w.heap.size,1,none⟩=some (.int .u64 n):=b1.cell 1
 have c20:W0.cell? ⟨w.heap.size+1,0,none⟩=some (.slice none 0 0):=b2.cell 0
 have c21:W0.cell? ⟨w.heap.size+1,1,none⟩=some (.int .u64 0):=b2.cell 1
 have f20:=b2.frozen 0
 have f21:=b2.frozen 1
 go_region_with (go_at_call 65;refine(zG B Rs c _ (HB.out.below (aa hb0 (by first|exact(KR _ _).drew|exact KR _ _))) hl HHR.out).mono ?_;rintro e w5 ⟨A5,c5,Ts5,rfl,h51,h52,hb5⟩;have hb6:Below W0.heap.size W0 w5:=(by first|exact hb5|exact aa ((KR _ _).drew) hb5);have d10:w5.cell? ⟨w.heap.size,0,none⟩=some (.slice B Rs.length c):=((aO hb6).1 _ _ l1).trans c10;have d11:w5.cell? ⟨w.heap.size,1,none⟩=some (.int .u64 n):=((aO hb6).1 _ _ l1).trans c11;have b25:=b2.below hb6 l2;have d20:w5.cell? ⟨w.heap.size+1,0,none⟩=some (.slice none 0 0):=b25.cell 0;have d21:w5.cell? ⟨w.heap.size+1,1,none⟩=some (.int .u64 0):=b25.cell 1;have e20:=b25.frozen 0;have e21:=b25.frozen 1;have H51:=KO h51;have H52:=KO h52;have H6:=KO hb6;clear h51 h52 hb5 hb6)
 all_goals
  go_wp2_with fail
  have hbx:=Kg b25 (.slice A5 Ts5.length c5) (.int .u64 n)
  have e0:=hbx.cell 0
  have e1:=hbx.cell 1
  refine KV (v:= .agg #[.slice A5 Ts5.length c5,.int .u64 n]) (by first|(simp[results,results52,go_sem,e0,e1];done)|(simp at e0 e1;simp[results,results52,go_sem,e0,e1])) rfl ?_
  exact⟨A5,c5,Ts5,rfl,H51.out,(H52.out.mono (by simp[HS0.out])).set2 b25 (by decide) (by decide) _ _,Gv (aa hb0 H6.out) (Mm _) _ _⟩
theorem mo (B:Option Addr) (Rs:List Rm) (c:Nat) (n:Int) (w:World) (hB:RunsAt w B Rs) (hT:tot (aB Rs)<=1000000) (hl:Rs.length<=1000000):
  Calls prog 117 #[.agg #[.slice B Rs.length c,.int .u64 n]] w fun r w'=>r= .returned (.int .i64 (tot (aB Rs):Nat))/\Below w.heap.size w w':=by
 obtain⟨W0,hW0⟩:∃W0,w.alloc (.cells #[.slice B Rs.length c,.int .u64 n] 38)=W0:=⟨_,rfl⟩
 have hb0:Below w.heap.size w W0:=by rw[<-hW0];exact(KR _ _).alloc (KS _) _
 have b1:Blk W0 w.heap.size 38 #[.slice B Rs.length c,.int .u64 n]:=by rw[<-hW0];exact Blk.new _ _ _
 have c10:W0.cell? ⟨w.heap.size,0,none⟩=some (.slice B Rs.length c):=b1.cell 0
 have HW0:=KO hW0
 have HB:=KO (hB.below hb0)
 have HB0:=KO hb0
 clear hW0 hB
 go_enter func117,ntmps117
 go_wp2
 rw[HW0.out]
 go_loopw [3,4] (fun a i wr=>∃k m:Nat,k<=Rs.length/\i= .int .i64 k/\a= .int .i64 m/\wr=W0/\m<=1000000/\Hid (m=tot ((aB Rs).take k))) (fun _ i _=>Rs.length-(intOf i).toNat)
 case atStart=>exact⟨0,0,K8 _,rfl,rfl,rfl,by omega,rfl⟩
 case round=>
  obtain⟨k,m,hk,rfl,rfl,rfl,hm,hd⟩:=hrel
  by_cases hlt:k< Rs.length
  ·obtain⟨b,off,rfl,hbl,cp⟩:=HB.out.sl.oneB (KR _ _) k hlt
   have hs:=jk (rs:=aB Rs) (k:=k) (by simpa using hlt)
   rw[gH hlt]at hs
   have hle:=iU (aB Rs) (k+1)
   obtain⟨r,hr⟩:∃r,Rs[k]'hlt=r:=⟨_,rfl⟩
   rw[hr]at cp hs
   obtain⟨l,A,cl⟩:=r
   have cp1:wr.cell? ⟨b,off+k,none⟩=some (.slice A l.length cl):=cp
   dsimp only at hs
   have hki:(0:Int)<=(k:Int):=by omega
   have hki2:(k:Int)< (Rs.length:Int):=by omega
   have hsum:m+l.length<=1000000:=by have:=hd.out;omega
   have hw:IntKind.i64.wrap ((m:Int)+(l.length:Int))=((m+l.length:Nat):Int):=(KU _ (by omega)).trans (by omega)
   have HS:=KO hs
   clear cp hr hs hle
   go_wp2
   go_roundw
   case rel=>exact⟨k+1,m+l.length,by omega,by go_num,by go_num,by first|trivial|rfl,hsum,by show _=_;rw[HS.out,hd.out]⟩
   case measure=>simp[intOf];omega
  ·have hkn:k=Rs.length:=by omega
   have hf:m=tot (aB Rs):=by rw[hd.out,KZ (by simp;omega)]
   have HF:=KO hf
   have hkf:¬(k:Int)< (Rs.length:Int):=by omega
   clear hkn hf
   go_wp2
   go_ret
   exact⟨aJ (by rw[HF.out]),HB0.out⟩
theorem FE (l:List Ent):decide ((au l).length< l.length)=gK l:=by
 have h1:(au l).length=(dD l).length:=by unfold au;rw[List.length_map]
 rw[h1]
 cases hd:gK l with
 |true=>
  refine decide_eq_true ?_
  unfold gK at hd
  unfold dD
  refine Classical.byContradiction fun hn=>?_
  have h2:(l.filter (fun e=>!e.dead)).length=l.length:=Nat.le_antisymm (List.length_filter_le _ _) (by omega)
  rw[List.length_filter_eq_length_iff]at h2
  obtain⟨e,he,hx⟩:=List.any_eq_true.1 hd
  have:=h2 e he
  rw[hx]at this
  simp at this
 |false=>
  refine decide_eq_false ?_
  unfold gK at hd
  rw[List.any_eq_false]at hd
  unfold dD
  rw[List.filter_eq_self.2 (fun e he=>by have:=hd e he;simpa using this)]
  omega
theorem nu (A:Option Addr) (l:List Ent) (c:Nat) (w:World) (hA:Sl w A (l.flatMap Ent.cells)) (hn:l.length<=1099511627776):
  Calls prog 142 #[.agg #[.slice A l.length c]] w fun r w'=>r= .returned (.bool (gK l))/\Below w.heap.size w w':=by
 obtain⟨W0,hW0⟩:∃W0,w.alloc (.cells #[.slice A l.length c] 145)=W0:=⟨_,rfl⟩
 have hb0:Below w.heap.size w W0:=by rw[<-hW0];exact(KR _ _).alloc (KS _) _
 have b1:Blk W0 w.heap.size 145 #[.slice A l.length c]:=by rw[<-hW0];exact Blk.new _ _ _
 have HW0:=KO hW0
 have HA:=KO hA
 have HB0:=KO hb0
 have hpl:Hid (decide ((au l).length< l.length)=gK l):=FE l
 have hpn:(au l).length<=l.length:=by unfold au;rw[List.length_map];exact gF l
 obtain⟨N,hN⟩:∃N,(au l).length=N:=⟨_,rfl⟩
 rw[hN]at hpl hpn
 have HN:=KO hN
 clear hW0 hA hN
 go_enter func142,ntmps142
 go_upto_region 1 with fail
 rw[HW0.out]
 have c10:W0.cell? ⟨w.heap.size,0,none⟩=some (.slice A l.length c):=b1.cell 0
 have l1:=b1.lt
 go_region_with (go_at_call 119;refine(om A l c _ (HA.out.below (aa HB0.out (by first|exact(KR _ _).drew|exact KR _ _))) hn).mono ?_;unfold dW;rw[HN.out];rintro e w5 ⟨A5,c5,rfl,h51,hb5⟩;have hb9:Below W0.heap.size W0 w5:=(by first|exact hb5|exact aa ((KR _ _).drew) hb5);have d10:w5.cell? ⟨w.heap.size,0,none⟩=some (.slice A l.length c):=((aO hb9).1 _ _ l1).trans c10;have HB9:=KO hb9;clear h51 hb5 hb9)
 all_goals
  go_wp2
  go_ret
  exact⟨aC (by rw[<-hpl.out]),aa HB0.out HB9.out⟩
theorem Ea (B:Option Addr) (Rs:List Rm) (c:Nat) (n:Int) (w:World) (hB:RunsAt w B Rs) (hl:Rs.length<=1000000) (hsm:∀r∈Rs,r.l.length<=65536) (hT:tot (aB Rs)<=1000000):
  Calls prog 104 #[.agg #[.slice B Rs.length c,.int .u64 n]] w (dW 55 2 (au (bM (iJ Rs))).length ((au (bM (iJ Rs))).flatMap Pr.cells) w):=by
 have hT2:(Rs.map (fun r=>r.l.length)).sum<=1000000:=by rw[<-GM];exact hT
 have hal:(bM (iJ Rs)).length<=1099511627776:=by
  have h:=nX (iJ Rs) (iJ Rs).length 1000000 (by rw[nM];exact hT2)
  rw[List.take_length]at h
  omega
 obtain⟨L,hL⟩:∃L,bM (iJ Rs)=L:=⟨_,rfl⟩
 rw[hL]at hal
 have HL:=KO hL
 have hb0:Below w.heap.size w (w.alloc (.cells #[.slice B Rs.length c,.int .u64 n] 38)):=(KR _ _).alloc (KS _) _
 have hcall:=fun W (hW:Below w.heap.size w W)=>zK B Rs c 1000000 W (hB.below hW) (by omega) hsm hT2 (by omega)
 rw[hL]at hcall ⊢
 have HC:=KO hcall
 clear hcall hL hB hsm hT hT2
 go_enter func104,ntmps104
 go_wp2_with fail
 refine(HC.out _ hb0).mono ?_
 rintro e w1 ⟨A1,c1,rfl,ho1,hb1⟩
 have HO1:=KO ho1
 clear ho1
 go_wp2_with fail
 refine(om A1 L c1 _ (aA HO1.out) hal).mono ?_
 rintro e w2 ⟨A2,c2,rfl,ho2,hb2⟩
 have HO2:=KO ho2
 have hs1:=hb1.size
 have hs2:w.heap.size<=w1.heap.size:=by simp at hs1;omega
 clear ho2
 go_wp2
 go_ret
 exact⟨A2,c2,rfl,av HO2.out hs2,aa (aa hb0 hb1) hb2⟩
theorem za (B:Option Addr) (Rs:List Rm) (c most:Nat) (n:Int) (w:World) (hB:RunsAt w B Rs) (hm:most<=1000000):
  Calls prog 49 #[.agg #[.slice B Rs.length c,.int .u64 n],.int .i64 most] w fun r w'=>∃G:Bool,r= .returned (.bool G)/\(G=false->Rs.length+tot (aB Rs)<=most)/\Below w.heap.size w w':=by
 have hb0:Below w.heap.size w (w.alloc (.cells #[.slice B Rs.length c,.int .u64 n] 38)):=(KR _ _).alloc (KS _) _
 have HB:=KO hB
 clear hB
 go_enter func49,ntmps49
 go_wp2_with fail
 refine(yF B Rs c most _ (HB.out.below hb0) hm).mono ?_
 rintro e w1 ⟨G,rfl,hG,rfl⟩
 have HG:=KO hG
 clear hG
 go_wp2
 go_ret
 exact⟨G,rfl,fun h=>by rw[GM];exact HG.out h,hb0⟩
theorem GG {rs:Lv} {k:Nat} (h:k< rs.length) (hb:jo rs.length k (lev rs k)=false):kg rs=false:=by
 cases hm:kg rs with
 |false=>rfl
 |true=>
  unfold kg iN at hm
  simp only[Lm,decide_eq_true_eq]at hm
  rw[hm.1.2 k h]at hb
  cases hb
theorem EL {rs:Lv} (h:ib rs=false):kg rs=false:=by unfold kg;rw[h];rfl
theorem FY {rs:Lv} (h:ib rs=true) (h2:iN rs rs.length=true):kg rs=decide (tot rs<=65536):=by unfold kg;rw[h,h2];rfl
theorem Dc (B:Option Addr) (Rs:List Rm) (c:Nat) (n:Int) (w:World) (hB:RunsAt w B Rs) (hT:tot (aB Rs)<=1000000) (hl:Rs.length<=1000000):
  Calls prog 116 #[.agg #[.slice B Rs.length c,.int .u64 n]] w fun r w'=>r= .returned (.bool (kg (aB Rs)))/\Below w.heap.size w w':=by
 obtain⟨W0,hW0⟩:∃W0,w.alloc (.cells #[.slice B Rs.length c,.int .u64 n] 38)=W0:=⟨_,rfl⟩
 have hb0:Below w.heap.size w W0:=by rw[<-hW0];exact(KR _ _).alloc (KS _) _
 have b1:Blk W0 w.heap.size 38 #[.slice B Rs.length c,.int .u64 n]:=by rw[<-hW0];exact Blk.new _ _ _
 have HW0:=KO hW0
 have HB:=KO hB
 have HB0:=KO hb0
 clear hW0 hB
 have c10:W0.cell? ⟨w.heap.size,0,none⟩=some (.slice B Rs.length c):=b1.cell 0
 have c11:W0.cell? ⟨w.heap.size,1,none⟩=some (.int .u64 n):=b1.cell 1
 by_cases hend:ib (aB Rs)=true
 ·have hEnd:=KO hend
  have hl17:Rs.length<=17:=by
   unfold ib at hend
   simp at hend
   exact hend.1
  go_enter func116,ntmps116
  go_upto_region 2 with fail
  rw[HW0.out]
  go_cut [25]from 9 to 25 (fun v wx=>v= .bool false/\wx=W0)
  case first=>
   have g1:¬(17:Int)< (Rs.length:Int):=by omega
   by_cases h0:Rs.length=0
   ·have g2:¬(0:Int)< (Rs.length:Int):=by omega
    clear hend h0
    go_wp2
    go_meet
    exact⟨by simp,by first|trivial|rfl⟩
   ·have g2:(0:Int)< (Rs.length:Int):=by omega
    obtain⟨j,hj⟩:∃j,Rs.length=j+1:=⟨Rs.length-1,by omega⟩
    obtain⟨b,off,rfl,hbl,cp⟩:=HB.out.sl.oneB hb0 j (by omega)
    have hne:(Rs[j]'(by omega)).l≠[]:=by
     unfold ib at hend
     rw[dB,hj]at hend
     simp at hend
     have h2:=hend.2
     rw[gH (by omega)]at h2
     exact h2
    obtain⟨r,hr⟩:∃r,Rs[j]'(by omega)=r:=⟨_,rfl⟩
    rw[hr]at cp hne
    obtain⟨l,A,cl⟩:=r
    have cp1:W0.cell? ⟨b,off+j,none⟩=some (.slice A l.length cl):=cp
    have hne2:¬l=[]:=hne
    have hl0:¬((l.length:Int)=0):=by have:=List.length_pos_iff.2 hne;dsimp only at this;omega
    have g4:IntKind.i64.wrap ((Rs.length:Int)-1)=(j:Int):=(KU _ (by omega)).trans (by omega)
    have g5:(0:Int)<=(j:Int):=by omega
    have g6:(j:Int)< (Rs.length:Int):=by omega
    clear cp hr hne hj hend h0
    go_wp2
    go_meet
    exact⟨by simp[hne2],by first|trivial|rfl⟩
  case rest=>
  obtain⟨rfl,rfl⟩:=hcut
  clear hend c10 c11
  go_wp2
  go_loopw [4] (fun i wr=>∃k:Nat,k<=Rs.length/\i= .int .i64 k/\Below w.heap.size w wr/\Blk wr w.heap.size 38 #[.slice B Rs.length c,.int .u64 n]/\Hid (iN (aB Rs) k=true)) (fun i _=>Rs.length-(intOf i).toNat)
  case atStart=>exact⟨0,K8 _,rfl,hb0,b1,by show _=_;unfold iN;simp⟩
  case round=>
   obtain⟨k,hk,rfl,hb,bX,hA⟩:=hrel
   have x10:wr.cell? ⟨w.heap.size,0,none⟩=some (.slice B Rs.length c):=bX.cell 0
   have x11:wr.cell? ⟨w.heap.size,1,none⟩=some (.int .u64 n):=bX.cell 1
   by_cases hlt:k< Rs.length
   ·obtain⟨b,off,rfl,hbl,cp⟩:=HB.out.sl.oneB hb k hlt
    have hok:=(HB.out.ok _ (Lh hlt)).below hb
    have ha:=tH (aB Rs) k
    have hbad:=GG (rs:=aB Rs) (k:=k) (by simpa using hlt)
    have hle:=IA (aB Rs) k
    rw[gH hlt,dB]at ha hbad
    rw[gH hlt]at hle
    obtain⟨r,hr⟩:∃r,Rs[k]'hlt=r:=⟨_,rfl⟩
    rw[hr]at cp hok ha hbad hle
    obtain⟨l,A,cl⟩:=r
    have cp1:wr.cell? ⟨b,off+k,none⟩=some (.slice A l.length cl):=cp
    dsimp only at ha hbad hle
    have hbl2:b< wr.heap.size:=Nat.lt_of_lt_of_le hbl hb.size
    have hki:(0:Int)<=(k:Int):=by omega
    have hki2:(k:Int)< (Rs.length:Int):=by omega
    have hw2:IntKind.i64.wrap ((Rs.length:Int)-1)=((Rs.length-1:Nat):Int):=(KU _ (by omega)).trans (by omega)
    obtain⟨E,hE⟩:∃E,bJ l=E:=⟨_,rfl⟩
    have hOK:jo Rs.length k l=(decide (E=0)&&(decide (l=[])||decide (up l.length=k))&&(decide (k+1≠Rs.length)||!gK l)):=by unfold jo;rw[hE]
    have hE16:E=0->l.length<=65536:=by rw[<-hE];exact fun h=>(kK h).2.2
    have hll:l.length<=1000000:=by omega
    have HOKS:=KO hok.sl
    have HA:=KO ha
    have HBAD:=KO hbad
    have HE:=KO hE
    have HE16:=KO hE16
    have HBB:=KO hb
    have hbs:=hb.size
    have lX:=bX.lt
    clear cp hr hok ha hbad hE hE16 hle
    obtain⟨U,hU⟩:∃U,up l.length=U:=⟨_,rfl⟩
    rw[hU]at hOK
    have HU:=KO hU
    obtain⟨DD,hDD⟩:∃DD,gK l=DD:=⟨_,rfl⟩
    rw[hDD]at hOK
    have HDD:=KO hDD
    have HOK:=KO hOK
    clear hU hOK hDD
    obtain⟨J,hJ⟩:∃J:Nat,Rs.length-1=J:=⟨_,rfl⟩
    rw[hJ]at hw2
    by_cases hE0:E=0
    ·have hl6:=HE16.out hE0
     have HL6:=KO hl6
     clear hl6
     by_cases hl0':l.length=0
     ·have hnil:l=[]:=LM hl0'
      have hl00:¬(0:Int)< (l.length:Int):=by omega
      have hDF:DD=false:=by rw[<-HDD.out,hnil];rfl
      clear hl0'
      have hK:jo Rs.length k l=true:=by rw[HOK.out];rw[hE0,hnil,hDF];simp
      have HK:=KO hK
      clear hK
      clear hnil
      subst hDF
      subst hE0
      by_cases hkn:k=J
      ·subst hkn
       go_wp2_with fail
       refine(dH A l cl _ HOKS.out (by omega)).mono ?_
       rw[HE.out]
       rintro e w1 ⟨rfl,hb1⟩
       have y10:w1.cell? ⟨w.heap.size,0,none⟩=some (.slice (some ⟨b,off,none⟩) Rs.length c):=(bX.below hb1 lX).cell 0
       have y11:w1.cell? ⟨w.heap.size,1,none⟩=some (.int .u64 n):=(bX.below hb1 lX).cell 1
       have yp1:w1.cell? ⟨b,off+k,none⟩=some (.slice A l.length cl):=((aO hb1).1 _ _ hbl2).trans cp1
       have bY:=bX.below hb1 lX
       have HB1:=KO (aa HBB.out hb1)
       go_wp2_with fail
       refine(nu A l cl _ (HOKS.out.below hb1) (by omega)).mono ?_
       rw[HDD.out]
       rintro e w3 ⟨rfl,hb3⟩
       have bZ:=bY.below hb3 bY.lt
       have HB3:=KO (aa HB1.out hb3)
       go_wp2
       go_roundw
       case rel=>exact⟨k+1,by omega,by go_num,HB3.out,bZ,by show _=_;rw[HA.out,hA.out,HK.out];rfl⟩
       case measure=>simp[intOf];omega
      ·go_wp2_with fail
       refine(dH A l cl _ HOKS.out (by omega)).mono ?_
       rw[HE.out]
       rintro e w1 ⟨rfl,hb1⟩
       have y10:w1.cell? ⟨w.heap.size,0,none⟩=some (.slice (some ⟨b,off,none⟩) Rs.length c):=(bX.below hb1 lX).cell 0
       have y11:w1.cell? ⟨w.heap.size,1,none⟩=some (.int .u64 n):=(bX.below hb1 lX).cell 1
       have yp1:w1.cell? ⟨b,off+k,none⟩=some (.slice A l.length cl):=((aO hb1).1 _ _ hbl2).trans cp1
       have bY:=bX.below hb1 lX
       have HB1:=KO (aa HBB.out hb1)
       go_wp2
       go_roundw
       case rel=>exact⟨k+1,by omega,by go_num,HB1.out,bY,by show _=_;rw[HA.out,hA.out,HK.out];rfl⟩
       case measure=>simp[intOf];omega
     ·have hl0:0< l.length:=by omega
      have hne:¬l=[]:=List.length_pos_iff.1 hl0
      have hl00:(0:Int)< (l.length:Int):=by omega
      have HL0:=KO hl0
      clear hl0 hl0'
      by_cases hu:U=k
      ·by_cases hkn:k=J
       ·cases DD
        ·have hK:jo Rs.length k l=true:=by rw[HOK.out];rw[hE0];simp[hu]
         have HK:=KO hK
         clear hK
         subst hkn
         subst hu
         subst hE0
         go_wp2_with fail
         refine(dH A l cl _ HOKS.out (by omega)).mono ?_
         rw[HE.out]
         rintro e w1 ⟨rfl,hb1⟩
         have y10:w1.cell? ⟨w.heap.size,0,none⟩=some (.slice (some ⟨b,off,none⟩) Rs.length c):=(bX.below hb1 lX).cell 0
         have y11:w1.cell? ⟨w.heap.size,1,none⟩=some (.int .u64 n):=(bX.below hb1 lX).cell 1
         have yp1:w1.cell? ⟨b,off+U,none⟩=some (.slice A l.length cl):=((aO hb1).1 _ _ hbl2).trans cp1
         have bY:=bX.below hb1 lX
         have HB1:=KO (aa HBB.out hb1)
         go_wp2_with fail
         refine(oh l.length _ HL0.out HL6.out).mono ?_
         rw[HU.out]
         rintro e w2 ⟨rfl,rfl⟩
         go_wp2_with fail
         refine(nu A l cl _ (HOKS.out.below hb1) (by omega)).mono ?_
         rw[HDD.out]
         rintro e w3 ⟨rfl,hb3⟩
         have bZ:=bY.below hb3 bY.lt
         have HB3:=KO (aa HB1.out hb3)
         go_wp2
         go_roundw
         case rel=>exact⟨U+1,by omega,by go_num,HB3.out,bZ,by show _=_;rw[HA.out,hA.out,HK.out];rfl⟩
         case measure=>simp[intOf];omega
        ·have hK:jo Rs.length k l=false:=by rw[HOK.out];rw[hE0];simp;omega
         have HK:=KO hK
         clear hK
         subst hkn
         subst hu
         subst hE0
         go_wp2_with fail
         refine(dH A l cl _ HOKS.out (by omega)).mono ?_
         rw[HE.out]
         rintro e w1 ⟨rfl,hb1⟩
         have y10:w1.cell? ⟨w.heap.size,0,none⟩=some (.slice (some ⟨b,off,none⟩) Rs.length c):=(bX.below hb1 lX).cell 0
         have y11:w1.cell? ⟨w.heap.size,1,none⟩=some (.int .u64 n):=(bX.below hb1 lX).cell 1
         have yp1:w1.cell? ⟨b,off+U,none⟩=some (.slice A l.length cl):=((aO hb1).1 _ _ hbl2).trans cp1
         have bY:=bX.below hb1 lX
         have HB1:=KO (aa HBB.out hb1)
         go_wp2_with fail
         refine(oh l.length _ HL0.out HL6.out).mono ?_
         rw[HU.out]
         rintro e w2 ⟨rfl,rfl⟩
         go_wp2_with fail
         refine(nu A l cl _ (HOKS.out.below hb1) (by omega)).mono ?_
         rw[HDD.out]
         rintro e w3 ⟨rfl,hb3⟩
         have bZ:=bY.below hb3 bY.lt
         have HB3:=KO (aa HB1.out hb3)
         go_wp2
         go_ret
         exact⟨aC (HBAD.out HK.out).symm,HB3.out⟩
       ·have hK:jo Rs.length k l=true:=by rw[HOK.out];rw[hE0];simp[hu];omega
        have HK:=KO hK
        clear hK
        subst hu
        subst hE0
        go_wp2_with fail
        refine(dH A l cl _ HOKS.out (by omega)).mono ?_
        rw[HE.out]
        rintro e w1 ⟨rfl,hb1⟩
        have y10:w1.cell? ⟨w.heap.size,0,none⟩=some (.slice (some ⟨b,off,none⟩) Rs.length c):=(bX.below hb1 lX).cell 0
        have y11:w1.cell? ⟨w.heap.size,1,none⟩=some (.int .u64 n):=(bX.below hb1 lX).cell 1
        have yp1:w1.cell? ⟨b,off+U,none⟩=some (.slice A l.length cl):=((aO hb1).1 _ _ hbl2).trans cp1
        have bY:=bX.below hb1 lX
        have HB1:=KO (aa HBB.out hb1)
        go_wp2_with fail
        refine(oh l.length _ HL0.out HL6.out).mono ?_
        rw[HU.out]
        rintro e w2 ⟨rfl,rfl⟩
        go_wp2
        go_roundw
        case rel=>exact⟨U+1,by omega,by go_num,HB1.out,bY,by show _=_;rw[HA.out,hA.out,HK.out];rfl⟩
        case measure=>simp[intOf];omega
      ·have hK:jo Rs.length k l=false:=by rw[HOK.out];rw[hE0];simp[hu,hne]
       have HK:=KO hK
       clear hK
       subst hE0
       go_wp2_with fail
       refine(dH A l cl _ HOKS.out (by omega)).mono ?_
       rw[HE.out]
       rintro e w1 ⟨rfl,hb1⟩
       have y10:w1.cell? ⟨w.heap.size,0,none⟩=some (.slice (some ⟨b,off,none⟩) Rs.length c):=(bX.below hb1 lX).cell 0
       have y11:w1.cell? ⟨w.heap.size,1,none⟩=some (.int .u64 n):=(bX.below hb1 lX).cell 1
       have yp1:w1.cell? ⟨b,off+k,none⟩=some (.slice A l.length cl):=((aO hb1).1 _ _ hbl2).trans cp1
       have bY:=bX.below hb1 lX
       have HB1:=KO (aa HBB.out hb1)
       go_wp2_with fail
       refine(oh l.length _ HL0.out HL6.out).mono ?_
       rw[HU.out]
       rintro e w2 ⟨rfl,rfl⟩
       go_wp2
       go_ret
       exact⟨aC (HBAD.out HK.out).symm,HB1.out⟩
    ·have hK:jo Rs.length k l=false:=by rw[HOK.out];simp[hE0]
     have HK:=KO hK
     clear hK
     go_wp2_with fail
     refine(dH A l cl _ HOKS.out (by omega)).mono ?_
     rw[HE.out]
     rintro e w1 ⟨rfl,hb1⟩
     have y10:w1.cell? ⟨w.heap.size,0,none⟩=some (.slice (some ⟨b,off,none⟩) Rs.length c):=(bX.below hb1 lX).cell 0
     have y11:w1.cell? ⟨w.heap.size,1,none⟩=some (.int .u64 n):=(bX.below hb1 lX).cell 1
     have yp1:w1.cell? ⟨b,off+k,none⟩=some (.slice A l.length cl):=((aO hb1).1 _ _ hbl2).trans cp1
     have bY:=bX.below hb1 lX
     have HB1:=KO (aa HBB.out hb1)
     go_wp2
     go_ret
     exact⟨aC (HBAD.out HK.out).symm,HB1.out⟩
   ·have hkn:k=Rs.length:=by omega
    have hall:iN (aB Rs) (aB Rs).length=true:=by rw[dB,<-hkn];exact hA.out
    have hfin:=FY hEnd.out hall
    have HF:=KO hfin
    have hkf:¬(k:Int)< (Rs.length:Int):=by omega
    have HBB:=KO hb
    clear hfin hall hkn hb
    go_wp2_with fail
    refine(mo B Rs c n _ (HB.out.below HBB.out) hT hl).mono ?_
    rintro e w4 ⟨rfl,hb4⟩
    go_wp2
    go_ret
    exact⟨aC (by rw[HF.out];first|rfl|(simp;omega)|(rw[decide_eq_decide];omega)),aa HBB.out hb4⟩
 ·have hE8:kg (aB Rs)=false:=EL (by simpa using hend)
  have HE8:=KO hE8
  clear hE8
  by_cases h17:17< Rs.length
  ·have g1:(17:Int)< (Rs.length:Int):=by omega
   clear hend
   go_enter func116,ntmps116
   go_wp2
   go_ret
   exact⟨aC HE8.out.symm,by first|exact HB0.out|(have:=HB0.out;rw[<-HW0.out]at this;exact this)⟩
  ·have g1:¬(17:Int)< (Rs.length:Int):=by omega
   have h0:Rs.length≠0:=by
    intro h0
    apply hend
    unfold ib
    rw[dB,h0];rfl
   have g2:(0:Int)< (Rs.length:Int):=by omega
   obtain⟨j,hj⟩:∃j,Rs.length=j+1:=⟨Rs.length-1,by omega⟩
   obtain⟨b,off,rfl,hbl,cp⟩:=HB.out.sl.oneB (KR _ _) j (by omega)
   have hne:(Rs[j]'(by omega)).l=[]:=by
    refine Classical.byContradiction fun hx=>hend ?_
    unfold ib
    rw[dB,hj,Nat.add_sub_cancel,gH (by omega)]
    simp[hx]
    omega
   obtain⟨r,hr⟩:∃r,Rs[j]'(by omega)=r:=⟨_,rfl⟩
   rw[hr]at cp hne
   obtain⟨l,A,cl⟩:=r
   have hnl:l=[]:=hne
   subst hnl
   have cp1:w.cell? ⟨b,off+j,none⟩=some (.slice A 0 cl):=cp
   have g4:IntKind.i64.wrap ((Rs.length:Int)-1)=(j:Int):=(KU _ (by omega)).trans (by omega)
   have g5:(0:Int)<=(j:Int):=by omega
   have g6:(j:Int)< (Rs.length:Int):=by omega
   clear cp hr hne hj hend
   go_enter func116,ntmps116
   go_wp2
   go_ret
   exact⟨aC HE8.out.symm,by first|exact HB0.out|(have:=HB0.out;rw[<-HW0.out]at this;exact this)⟩
section
section
variable {w W V V':World}
end
theorem wB {w:World} {B0 k:Nat} {A:Option Addr} {d:Nat} {Ts:List Rm} {o:Obj} (h:Hid (OwnRs w B0 A d Ts)) (hk:Hid (Ts.length=k)):(w.alloc o).ownsRow B0 145 1 (.slice A k d) k (Ts.map Rm.v):=by
 have:=h.out.row.alloc o
 rw[hk.out]at this
 exact this
theorem Di (B:Option Addr) (Rs:List Rm) (c:Nat) (n:Int) (w:World) (hB:RunsAt w B Rs) (hl:Rs.length<=1000000) (hrs:∀r∈Rs,r.l.length<=1000000):
  Calls prog 111 #[.agg #[.slice B Rs.length c,.int .u64 n]] w (Cs (aB Rs) n w):=by
 obtain⟨te0,hI⟩:=LU uM
 have HI:=KO hI
 obtain⟨W0,hW0⟩:∃W0,((w.alloc (.cells #[.slice B Rs.length c,.int .u64 n] 38)).alloc (.cells #[.slice none 0 0,.int .u64 0] 38)).alloc (.cells #[.slice none 0 0,.int .u64 n] 38)=W0:=⟨_,rfl⟩
 have hb0:Below w.heap.size w W0:=by rw[<-hW0];exact(((KR _ _).alloc (KS _) _).alloc (by simp) _).alloc (by simp;omega) _
 have b20:Blk W0 (w.heap.size+1) 38 #[.slice none 0 0,.int .u64 0]:=by
  rw[<-hW0]
  have:=Blk.new (w.alloc (.cells #[.slice B Rs.length c,.int .u64 n] 38)) 38 #[.slice none 0 0,.int .u64 0]
  rw[KX]at this
  exact this.alloc _
 have b30:Blk W0 (w.heap.size+2) 38 #[.slice none 0 0,.int .u64 n]:=by
  rw[<-hW0]
  have:=Blk.new ((w.alloc (.cells #[.slice B Rs.length c,.int .u64 n] 38)).alloc (.cells #[.slice none 0 0,.int .u64 0] 38)) 38 #[.slice none 0 0,.int .u64 n]
  rwa [KX,KX]at this
 have HB:=KO hB
 have HHR:=KO hrs
 have HW0:=KO hW0
 clear hB hrs hI hW0
 go_enter func111,ntmps111
 go_wp2
 rw[HW0.out]
 go_loopw [12] (fun i wr=>∃(k:Nat) (Ts:List Rm) (A:Option Addr) (d:Nat),k<=Rs.length/\i= .int .i64 k/\Below w.heap.size w wr/\Blk wr (w.heap.size+1) 38 #[.slice none 0 0,.int .u64 0]/\Blk wr (w.heap.size+2) 38 #[.slice A k d,.int .u64 n]/\
   Hid (OwnRs wr w.heap.size A d Ts/\aB Ts=(aB Rs).take k/\Ts.length=k)) (fun i _=>Rs.length-(intOf i).toNat)
 case atStart=>exact⟨0,[],none,0,K8 _,rfl,hb0,b20,b30,OwnRs.nil _ _,rfl,rfl⟩
 case round=>
  obtain⟨k,Ts,A,d,hk,rfl,hb,b2,b3,hH⟩:=hrel
  have hbs:=hb.size
  have c30:wr.cell? ⟨w.heap.size+1+1,0,none⟩=some (.slice A k d):=b3.cell 0
  have c31:wr.cell? ⟨w.heap.size+1+1,1,none⟩=some (.int .u64 n):=b3.cell 1
  have f30:=b3.frozen 0
  have l3:=b3.lt
  by_cases hlt:k< Rs.length
  ·obtain⟨b,off,rfl,hbl,cp⟩:=HB.out.sl.oneB hb k hlt
   have hok:=HB.out.ok _ (Lh hlt)
   have hrl:=HHR.out _ (Lh hlt)
   have hin2:(aB Rs).take (k+1)=(aB Rs).take k++[(Rs[k]'hlt).l]:=by
    rw[Lc (by simpa using hlt)];simp
   obtain⟨r,hr⟩:∃r,Rs[k]'hlt=r:=⟨_,rfl⟩
   rw[hr]at cp hok hrl hin2
   obtain⟨l,Al,cl⟩:=r
   have cp1:wr.cell? ⟨b,off+k,none⟩=some (.slice Al l.length cl):=cp
   dsimp only at hrl hin2
   have hki:(0:Int)<=(k:Int):=by omega
   have hki2:(k:Int)< (Rs.length:Int):=by omega
   have HOK:=KO hok.sl
   have HIN:=KO hin2
   obtain⟨W1,hW1⟩:∃W1,wr.alloc (.cells #[.slice Al l.length cl] 145)=W1:=⟨_,rfl⟩
   have hb1:Below wr.heap.size wr W1:=by rw[<-hW1];exact(KR _ _).alloc (KS _) _
   have b51:Blk W1 wr.heap.size 145 #[.slice Al l.length cl]:=by rw[<-hW1];exact Blk.new _ _ _
   have HW1:=KO hW1
   clear cp hr hok hin2 hW1
   go_upto_region 5 with fail
   rw[HW1.out]
   clear c30 c31 f30 cp1
   have b21:=b2.below hb1 b2.lt
   have b31:=b3.below hb1 b3.lt
   have hb01:Below w.heap.size w W1:=aa hb hb1
   have O1:Hid (OwnRs W1 w.heap.size A d Ts):=hH.out.1.below hb1
   have c50:W1.cell? ⟨wr.heap.size,0,none⟩=some (.slice Al l.length cl):=b51.cell 0
   have c30:W1.cell? ⟨w.heap.size+1+1,0,none⟩=some (.slice A k d):=b31.cell 0
   have c31:W1.cell? ⟨w.heap.size+1+1,1,none⟩=some (.int .u64 n):=b31.cell 1
   have f30:=b31.frozen 0
   have hTk:Hid (Ts.length=k):=hH.out.2.2
   have HB01:=KO hb01
   have hwl:w.heap.size<=W1.heap.size:=hb01.size
   go_region_law (first
    |(refine dS _ (by rfl) (.tmp 17) (.tmp 20) _ (by rfl) w.heap.size 145 te0 _ 1 24 underlying36 HI.out.1 HI.out.2.1 HI.out.2.2.1 HI.out.2.2.2 rfl (by omega) (.slice A k d) k (Ts.map Rm.v) (by rfl) (wB O6 hTk) _ 1 _ [.slice A6 l.length c6] (by rfl) (by exact df _ _ _) rfl (by simp[K5]) (by unfold maxLen;omega) (by omega) (by simp;omega) ?_;intro v7 w7 hown7 hg7;obtain⟨A7,d7,rfl,hle7,hmx7⟩:=ak hown7;have b37:=(b36.alloc (.cells #[.slice A6 l.length c6] 145)).grown hg7 (Cx (wB O6 hTk) (b36.alloc (.cells #[.slice A6 l.length c6] 145)) (by decide));have b27:=(b26.alloc (.cells #[.slice A6 l.length c6] 145)).grown hg7 (Cx (wB O6 hTk) (b26.alloc (.cells #[.slice A6 l.length c6] 145)) (by decide));have c37:w7.cell? ⟨w.heap.size+1+1,0,none⟩=some (.slice A k d):=b37.cell 0;have f37:w7.frozen? ⟨w.heap.size+1+1,0,none⟩=false:=b37.frozen 0;have HO7:=KO hown7;have HG7:=KO hg7;clear hown7 hg7)
    |(go_simp;go_at_call 129;refine(Gu Al l cl _ (HOK.out.below (by first|exact HB01.out.drew|exact HB01.out)) hrl).mono ?_;rintro e w6 ⟨A6,c6,rfl,ho6,hb6⟩;have hb16:Below W1.heap.size W1 w6:=(by first|exact hb6|exact aa ((KR _ _).drew) hb6);have O6:=KO (O1.out.below hb16);have b26:=b21.below hb16 b21.lt;have b36:=b31.below hb16 b31.lt;have HO6:=KO (av (B':=w.heap.size) ho6 (by first|exact hwl|(simp;omega)));have HB6:=KO hb16;have hs6:=hb16.size;have c36:w6.cell? ⟨w.heap.size+1+1,0,none⟩=some (.slice A k d):=b36.cell 0;have f36:w6.frozen? ⟨w.heap.size+1+1,0,none⟩=false:=b36.frozen 0;have l36:w.heap.size+1+1< w6.heap.size:=b36.lt;clear ho6 hb6 hb16)
    |fail "no arm")
   all_goals
    go_wp2_with fail
    go_roundw
    case rel=>
     have hb7:Below w.heap.size w w7:=((aa HB01.out HB6.out).alloc (by have:=(aa HB01.out HB6.out).size;omega) _).grown HG7.out (by have:=(aa HB01.out HB6.out).size;simp;omega) (fun q hq=>(O1.out.row.lt q (by rw[hTk.out];exact hq)).1)
     have hO7:OwnRs w7 w.heap.size A7 d7 (Ts++[⟨l,A6,c6⟩]):=OwnRs.push (O6.out.alloc (.cells #[.slice A6 l.length c6] 145)) ⟨l,A6,c6⟩ (HO6.out.alloc _) (by rw[hTk.out];exact HO7.out) (by rw[hTk.out];exact HG7.out)
     refine⟨k+1,Ts++[⟨l,A6,c6⟩],A7,d7,by omega,by go_num,hb7.setCell (p:=⟨w.heap.size+1+1,0,none⟩) (by show w.heap.size<=w.heap.size+1+1;omega) _,b27.far (p:=⟨w.heap.size+1+1,0,none⟩) (by simp) _,?_,hO7.setT b37 (by decide) (by decide) 0 _,?_,?_⟩
     ·have:=b37.set_ 0 (.slice A7 (k+1) d7)
      simpa using this
     ·rw[Bt,hH.out.2.1,HIN.out];rfl
     ·rw[List.length_append,hTk.out];rfl
    case measure=>simp[intOf];omega
  ·have hkn:k=Rs.length:=by omega
   have HF:Hid (aB Ts=aB Rs):=by
    have h:=hH.out.2.1
    rw[KZ (by rw[dB];omega)]at h
    exact h
   have HTK:Hid (Ts.length=k):=hH.out.2.2
   clear hkn
   have f20:=b2.frozen 0
   have f21:=b2.frozen 1
   have c20:wr.cell? ⟨w.heap.size+1,0,none⟩=some (.slice none 0 0):=b2.cell 0
   have c21:wr.cell? ⟨w.heap.size+1,1,none⟩=some (.int .u64 0):=b2.cell 1
   go_wp2
   have hbx:=Kg b2 (.slice A k d) (.int .u64 n)
   have e0:((wr.setCell ⟨w.heap.size+1,0,none⟩ (.slice A k d)).setCell ⟨w.heap.size+1,1,none⟩ (.int .u64 n)).cell? ⟨w.heap.size+1,0,none⟩=some (.slice A k d):=hbx.cell 0
   have e1:((wr.setCell ⟨w.heap.size+1,0,none⟩ (.slice A k d)).setCell ⟨w.heap.size+1,1,none⟩ (.int .u64 n)).cell? ⟨w.heap.size+1,1,none⟩=some (.int .u64 n):=hbx.cell 1
   refine KV (v:= .agg #[.slice A k d,.int .u64 n]) (by simp[results,results111,go_sem,e0,e1]) rfl ?_
   exact⟨A,d,Ts,by rw[HTK.out],HF.out,hH.out.1.set2 b2 (by decide) (by decide) _ _,Gv hb (Mm _) _ _⟩
end
end Go.Proofs.YtpbmbjjfdpkhbaaGreat
