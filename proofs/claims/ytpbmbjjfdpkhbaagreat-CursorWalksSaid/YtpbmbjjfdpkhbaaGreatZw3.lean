/- part of the proof -/
import Derived.Test.YtpbmbjjfdpkhbaaGreatZw2
import Derived.Test.YtpbmbjjfdpkhbaaGreatProg
import Derived.Test.YtpbmbjjfdpkhbaaGreatZw1
import Derived.Deep.RegionHeld3
import Derived.Deep.AppendLies
import Derived.Deep.RegionLaw
import Derived.Shelf.Spec.TrailingZeros
import Derived.IntWalk
import Derived.Lib.TrailingZeros
import Derived.Laws.Bits64
namespace Go.Proofs.YtpbmbjjfdpkhbaaGreat
open Go Go.RowKit
set_option linter.all false
set_option maxRecDepth 100000
set_option maxHeartbeats 32000000
open Go.Proofs.Tryz
open Below renaming refl->KR
open Go renaming bodyPost_end->M0,bodyPost_ret->KV,info_parts->LU,results_none->L6
open Go.Lib renaming hid->KO
open Go.Value renaming int->LB,oneCell'->K5
open Go.World renaming cell?_of_block->Mf,ownsRow_nil->Li,putObj_heap_other->K9,size_alloc->KX
open List renaming append_toArray->Me,cons_append->Mr,ext_getElem?->Ni,flatMap_append->L9,getElem?_append_left->Nf,getElem?_append_right->Ma,getElem?_cons_succ->La,getElem?_eq_getElem->K7,getElem?_eq_none->Mg,getElem_map->MQ,getElem_mem->Lh,map_append->MR,mem_of_getElem?->M7,nil_append->LA,push_toArray->Mq,range->Lt,size_toArray->Ll,take_of_length_le->KZ,take_succ_eq_append_getElem->Lc
open Nat renaming div_div_eq_div_mul->Md,div_le_self->Na,le_refl->KS,le_trans->KY,pow_succ->MO,reduceAdd->LD,reduceSub->LF,strongRecOn->Ng,zero_le->K8
theorem Aq (w0 w:World) (p g c n:Nat) (Hs:List Hm) (hn:Hs.length=n) (hmx:n<=1099511627776)
  (hp:Blk w p 322 #[.slice (some ⟨g,0,none⟩) n c,iM]) (hg:HeadsAt w g Hs) (hpg:p≠g) (hok:∀m∈Hs,m.Ok w0) (hB:Below w0.heap.size w0 w)
  (hgB:w0.heap.size<=g) (hpB:w0.heap.size<=p):
  Calls prog 277 #[.pointer (some ⟨p,0,none⟩)] w (JH p g Hs 0 w):=by
 have hbl:=hB.size
 have c0:w.cell? ⟨p,0,none⟩=some (.slice (some ⟨g,0,none⟩) n c):=hp.cell 0
 obtain⟨hf,hhf⟩:∃hf,hf=n/2:=⟨_,rfl⟩
 have H2:=KO hhf
 clear hhf
 go_enter func277,ntmps277
 go_wp2
 go_loopw [2] (fun v wr=>∃(k:Nat) (H:List Hm),k<=hf/\v= .int .i64 ((k:Int)-1)/\H.Perm Hs/\Mod (fun b=>b=g) w wr/\HeadsAt wr g H/\Hid (eP (H.map Hm.h) k)) (fun v _=>(intOf v+1).toNat)
 case atStart=>exact⟨hf,Hs,KS _,by congr 1;have:=H2.out;omega,List.Perm.refl _,Mod.refl _ _,hg,xJ (by have:=H2.out;simp;omega)⟩
 case round=>
  obtain⟨k,H,hk,rfl,hperm,hm,hH,hsk⟩:=hrel
  by_cases h0:k=0
  ·subst h0
   go_wp2
   refine M0 (L6 rfl _ _ _) rfl ?_
   exact⟨⟨_,rfl⟩,H,hperm,hsk.out,hH,hm⟩
  ·obtain⟨j,rfl⟩:∃j,k=j+1:=⟨k-1,by omega⟩
   have e1:((j+1:Nat):Int)-1=(j:Int):=by omega
   rw[e1]
   have j0:(0:Int)<=(j:Int):=by omega
   have j1:(j:Int)<=1099511627776:=by have:=H2.out;omega
   have HK:=KO hk
   have HP:=KO hperm
   clear e1 h0 hk hperm
   go_wp2_with fail
   refine(ry w0 wr p g c n j j H (HP.out.length_eq.trans hn) hmx (by have:=HK.out;have:=H2.out;omega) (KS _) (hp.mod hm (by omega)) hH hpg (fun m hmm=>hok m (HP.out.mem_iff.1 hmm)) (hB.trans (hm.below hbl (by intro k h;omega))) hgB hpB (Sinks.start hsk.out)).mono ?_
   rintro e w1 ⟨⟨v,rfl⟩,H',hp',hh',hH',hm'⟩
   go_wp2
   go_roundw
   case rel=>exact⟨j,H',by have:=HK.out;omega,by go_num,hp'.trans HP.out,hm.trans hm',hH',hh'⟩
   case measure=>first|(simp[intOf];omega)|simp[intOf]
theorem Aa (w:World) (p:Nat) (F:Value) (hp:Blk w p 322 #[.slice none 0 0,F]):
  Calls prog 277 #[.pointer (some ⟨p,0,none⟩)] w (fun r w'=>(∃v,r= .returned v)/\w'=w):=by
 have c0:w.cell? ⟨p,0,none⟩=some (.slice none 0 0):=hp.cell 0
 go_enter func277,ntmps277
 go_wp2
 go_loopw [2] (fun v wr=>v= .int .i64 (-1)/\wr=w) (fun v _=>(intOf v+1).toNat)
 case atStart=>exact⟨by go_num,rfl⟩
 case round=>
  obtain⟨rfl,rfl⟩:=hrel
  go_wp2
  refine M0 (L6 rfl _ _ _) rfl ?_
  exact⟨⟨_,rfl⟩,rfl⟩
def Gd (p g c:Nat) (Hs:List Hm) (w:World) (r:Ending) (w':World):Prop:=
 (∃v,r= .returned v)/\∃Hs',Hs'.Perm (Hs.drop 1)/\eP (Hs'.map Hm.h) 0/\HeadsAt w' g Hs'/\Blk w' p 322 #[.slice (some ⟨g,0,none⟩) (Hs.length-1) c,iM]/\Mod (fun b=>b=g∨b=p) w w'
theorem CE (w0 w:World) (p g c n:Nat) (Hs:List Hm) (hn:Hs.length=n+1) (hmx:n+1<=1099511627776) (hc:n+1<=c)
  (hp:Blk w p 322 #[.slice (some ⟨g,0,none⟩) (n+1) c,iM]) (hg:HeadsAt w g Hs) (hpg:p≠g) (hok:∀m∈Hs.drop 1,m.Ok w0) (hB:Below w0.heap.size w0 w)
  (hgB:w0.heap.size<=g) (hpB:w0.heap.size<=p) (hh:eP (Hs.map Hm.h) 0):
  Calls prog 278 #[.pointer (some ⟨p,0,none⟩)] w (Gd p g c Hs w):=by
 have hbl:=hB.size
 have c0:w.cell? ⟨p,0,none⟩=some (.slice (some ⟨g,0,none⟩) (n+1) c):=hp.cell 0
 have hnH:n< Hs.length:=by omega
 have h0H:0< Hs.length:=by omega
 obtain⟨a1,a2⟩:=hg.cells n hnH
 obtain⟨b1,b2⟩:=hg.cells 0 h0H
 have f1:=hg.frozen 0
 have f2:=hg.frozen 1
 have f3:=hp.frozen 0
 rw[Nat.zero_mul]at b1 b2
 have b1:w.cell? ⟨g,0,none⟩=some (.slice (Hs[0]'h0H).A (Hs[0]'h0H).n (Hs[0]'h0H).c):=b1
 have b2:w.cell? ⟨g,1,none⟩=some (.int .i64 (Hs[0]'h0H).h.age):=b2
 obtain⟨ml,hml⟩:∃m,Hs[n]'hnH=m:=⟨_,rfl⟩
 obtain⟨m0,hm0⟩:∃m,Hs[0]'h0H=m:=⟨_,rfl⟩
 rw[hml]at a1 a2
 rw[hm0]at b1 b2
 obtain⟨N,hN⟩:∃N,N=n+1:=⟨_,rfl⟩
 rw[<-hN]at c0
 have n0:(0:Int)<=(n:Int):=by omega
 have n1:(n:Int)< (N:Int):=by omega
 have n2:(0:Int)< (N:Int):=by omega
 have n3:(N:Int)-1=(n:Int):=by omega
 have n4:n<=c:=by omega
 have HHG:=KO hg
 go_enter func278,ntmps278
 go_wp2_with fail
 go_region
 all_goals
  obtain⟨W,hW⟩:∃W,(((w.setCell ⟨g,0,none⟩ (.slice ml.A ml.n ml.c)).setCell ⟨g,1,none⟩ (.int .i64 ml.h.age)).setCell ⟨p,0,none⟩ (.slice (some ⟨g,0,none⟩) n c)).drew=W:=⟨_,rfl⟩
  have hHW:HeadsAt W g ((Hs.set 0 ml).take n):=by
   rw[<-hW]
   have h1:HeadsAt ((w.setCell ⟨g,0,none⟩ (.slice ml.A ml.n ml.c)).setCell ⟨g,1,none⟩ (.int .i64 ml.h.age)) g (Hs.set 0 ml):=by
    have:=HHG.out.put 0 h0H ml
    simpa using this
   obtain⟨cur,h2,h3⟩:=h1.take n
   exact⟨cur,(h2.far (p:=⟨p,0,none⟩) (fun e=>hpg e.symm) _),h3⟩
  have hpW:Blk W p 322 #[.slice (some ⟨g,0,none⟩) n c,iM]:=by
   rw[<-hW]
   have h1:=((hp.far (p:=⟨g,0,none⟩) hpg (.slice ml.A ml.n ml.c)).far (p:=⟨g,1,none⟩) hpg (.int .i64 ml.h.age)).set_ 0 (.slice (some ⟨g,0,none⟩) n c)
   exact h1
  have hmW:Mod (fun b=>b=g∨b=p) w W:=by
   rw[<-hW]
   exact((((Mod.refl _ w).setCell (p:=⟨g,0,none⟩) (.inl rfl) _).setCell (p:=⟨g,1,none⟩) (.inl rfl) _).setCell (p:=⟨p,0,none⟩) (.inr rfl) _).drew
  have hperm:((Hs.set 0 ml).take n).Perm (Hs.drop 1):=by
   cases Hs with
   |nil=>simp at h0H
   |cons a l=>
    have hl:l.length=n:=by simpa using hn
    rcases List.eq_nil_or_concat l with rfl|⟨l',z,rfl⟩
    ·simp at hl;subst hl;simp
    ·simp at hl
     subst hl
     rw[<-hml]
     simp
     exact(List.perm_append_comm (l₁:=[z]) (l₂:=l'))
  have hsk:Sinks ((((Hs.set 0 ml).take n)).map Hm.h) 0 0:=by
   refine Sinks.start ?_
   intro j ci hci hj h1 hcc
   have:=hh j ci (by simp at hci ⊢;omega) hj (by omega) hcc
   simp only[MQ,List.getElem_take]at this ⊢
   rw[List.getElem_set_ne (by omega),List.getElem_set_ne (by omega)]
   exact this
  have HW:=KO hW
  have HL:=KO (show((Hs.set 0 ml).take n).length=n by simp;omega)
  clear hW
  have HPP:=KO hperm
  clear hperm
  have hmx':n<=1099511627776:=by omega
  have hlen:Hs.length-1=n:=by omega
  go_wp2_with fail
  rw[HW.out]
  refine(ry w0 W p g c n 0 0 ((Hs.set 0 ml).take n) HL.out hmx' (K8 _) (KS _) hpW hHW hpg (fun m hm=>hok m (HPP.out.mem_iff.1 hm)) (hB.trans (hmW.below hbl (by intro k h;omega))) hgB hpB hsk).mono ?_
  rintro e w1 ⟨⟨v,rfl⟩,H',hp',hh',hH',hm'⟩
  go_wp2
  refine M0 (L6 rfl _ _ _) rfl ?_
  exact⟨⟨_,rfl⟩,H',hp'.trans HPP.out,hh',hH',by rw[hlen];exact hpW.mod hm' (by omega),hmW.trans (hm'.mono (fun _ _ h=> .inl h))⟩
def ai (n a:Nat):List Nat:=if _h:a< n then ai n (2*a+1)++a::ai n (2*a+2)else[]
termination_by n-a
decreasing_by all_goals omega
def lm (n a:Nat):Nat:=if h:2*a+1< n then lm n (2*a+1)else a
termination_by n-a
decreasing_by omega
def Bp (a:Nat):Option Nat:=if a=0 then none else if a %2=1 then some ((a-1)/2)else Bp ((a-1)/2)
termination_by a
decreasing_by omega
def nx (n a:Nat):Option Nat:=if 2*a+2< n then some (lm n (2*a+2))else Bp a
theorem fH {n a:Nat} (h:a< n):ai n a=ai n (2*a+1)++a::ai n (2*a+2):=by rw[ai];simp[h]
theorem cO {n a:Nat} (h:¬a< n):ai n a=[]:=by rw[ai];simp[h]
theorem Jf {n a:Nat} (h:2*a+1< n):lm n a=lm n (2*a+1):=by rw[lm];simp[h]
theorem E5 {n a:Nat} (h:¬2*a+1< n):lm n a=a:=by rw[lm];simp[h]
theorem yX:Bp 0=none:=by rw[Bp];simp
theorem Cz {a:Nat} (h:a %2=1):Bp a=some ((a-1)/2):=by rw[Bp,if_neg (by omega),if_pos h]
theorem wN {a:Nat} (h0:a≠0) (h:a %2≠1):Bp a=Bp ((a-1)/2):=by rw[Bp,if_neg h0,if_neg h]
theorem Gz {n a:Nat} (h:a< n):ai n a≠[]:=by rw[fH h];simp
theorem Ay (n a:Nat) (h:a< n):(ai n a).head? =some (lm n a):=by
 induction a using lm.induct (n:=n)with
 |case1 a h1 ih=>
  rw[fH h,Jf h1,List.head?_append,ih h1]
  rfl
 |case2 a h1=>
  rw[fH h,E5 h1,cO h1]
  rfl
theorem kE {n a:Nat} (h:a< n) (h0:0< (ai n a).length):(ai n a)[0]'h0=lm n a:=by
 have:=Ay n a h
 rw[List.head?_eq_getElem?,K7 h0]at this
 exact Option.some.inj this
theorem Fh (n:Nat):∀(m a:Nat),n-a<=m->a< n->∀(k:Nat) (x:Nat),(ai n a)[k]?=some x->nx n x=((ai n a)[k+1]?).or (Bp a):=by
 intro m
 induction m with
 |zero=>intro a hm h;omega
 |succ m ih=>
  intro a hm h k x hx
  have hl:∀k x,(ai n (2*a+1))[k]?=some x->nx n x=((ai n (2*a+1))[k+1]?).or (some a):=by
   intro k x hx
   by_cases h1:2*a+1< n
   ·have:=ih (2*a+1) (by omega) h1 k x hx
    rw[this,Cz (by omega)]
    congr 2
    omega
   ·rw[cO h1]at hx;simp at hx
  have hr:∀k x,(ai n (2*a+2))[k]?=some x->nx n x=((ai n (2*a+2))[k+1]?).or (Bp a):=by
   intro k x hx
   by_cases h1:2*a+2< n
   ·have:=ih (2*a+2) (by omega) h1 k x hx
    rw[this,wN (a:=2*a+2) (by omega) (by omega)]
    congr 2
    omega
   ·rw[cO h1]at hx;simp at hx
  rw[fH h]at hx ⊢
  rcases Nat.lt_trichotomy k (ai n (2*a+1)).length with hk|hk|hk
  ·rw[Nf hk]at hx
   rw[hl k x hx]
   by_cases hk1:k+1< (ai n (2*a+1)).length
   ·rw[Nf hk1,K7 hk1];rfl
   ·have:k+1=(ai n (2*a+1)).length:=by omega
    rw[Ma (by omega),this,Nat.sub_self,Mg (by omega)]
    rfl
  ·rw[Ma (by omega),hk,Nat.sub_self]at hx
   simp at hx
   subst hx
   rw[Ma (by omega),hk]
   have:(ai n (2*a+1)).length+1-(ai n (2*a+1)).length=1:=by omega
   rw[this]
   simp only[La]
   unfold nx
   by_cases h2:2*a+2< n
   ·rw[if_pos h2]
    have h0:0< (ai n (2*a+2)).length:=by
     have:=Gz h2
     cases hh:ai n (2*a+2)with
     |nil=>exact absurd hh this
     |cons=>simp
    rw[K7 h0,kE h2 h0]
    rfl
   ·rw[if_neg h2,cO h2]
    rfl
  ·rw[Ma (by omega)]at hx
   obtain⟨j,rfl⟩:∃j,k=(ai n (2*a+1)).length+1+j:=⟨k-(ai n (2*a+1)).length-1,by omega⟩
   have e1:(ai n (2*a+1)).length+1+j-(ai n (2*a+1)).length=j+1:=by omega
   have e2:(ai n (2*a+1)).length+1+j+1-(ai n (2*a+1)).length=j+1+1:=by omega
   rw[e1,La]at hx
   rw[Ma (by omega),e2,La]
   exact hr j x hx
theorem Co {n k x:Nat} (hx:(ai n 0)[k]?=some x):nx n x=(ai n 0)[k+1]?:=by
 by_cases h:0< n
 ·rw[Fh n n 0 (by omega) h k x hx,yX,Option.or_none]
 ·rw[cO h]at hx;simp at hx
theorem lQ (n:Nat):∀(m a:Nat),n-a<=m->∀x,x∈ai n a↔x< n/\∃d,(x+1)/2 ^ d=a+1:=by
 intro m
 induction m with
 |zero=>
  intro a hm x
  rw[cO (by omega)]
  simp only[List.not_mem_nil,false_iff,not_and,not_exists]
  intro hx d he
  have:=Na (x+1) (2 ^ d)
  omega
 |succ m ih=>
  intro a hm x
  by_cases h:a< n
  ·rw[fH h,List.mem_append,List.mem_cons,ih (2*a+1) (by omega),ih (2*a+2) (by omega)]
   constructor
   ·rintro(⟨hx,d,he⟩|rfl|⟨hx,d,he⟩)
    ·refine⟨hx,d+1,?_⟩
     rw[MO,<-Md,he];omega
    ·exact⟨h,0,by simp⟩
    ·refine⟨hx,d+1,?_⟩
     rw[MO,<-Md,he];omega
   ·rintro⟨hx,d,he⟩
    cases d with
    |zero=>right;left;simp at he;exact he
    |succ d=>
     rw[MO,<-Md]at he
     have:(x+1)/2 ^ d=2*a+1+1∨(x+1)/2 ^ d=2*a+2+1:=by omega
     rcases this with h1|h1
     ·exact .inl ⟨hx,d,h1⟩
     ·exact .inr (.inr ⟨hx,d,h1⟩)
  ·rw[cO h]
   simp only[List.not_mem_nil,false_iff,not_and,not_exists]
   intro hx d he
   have:=Na (x+1) (2 ^ d)
   omega
theorem Ef (x:Nat):∃d,(x+1)/2 ^ d=1:=by
 induction x using Ng with
 |_ x ih=>
  cases x with
  |zero=>exact⟨0,rfl⟩
  |succ x=>
   obtain⟨d,hd⟩:=ih ((x+2)/2-1) (by omega)
   refine⟨d+1,?_⟩
   rw[MO,Nat.mul_comm,<-Md]
   rw[show(x+2)/2-1+1=(x+2)/2 by omega]at hd
   exact hd
theorem iF (n x:Nat):x∈ai n 0↔x< n:=by
 rw[lQ n n 0 (by omega)]
 exact⟨fun h=>h.1,fun h=>⟨h,Ef x⟩⟩
theorem CK {y d e c:Nat} (hde:d< e) (h1:y/2 ^ d=c):y/2 ^ e<=c/2:=by
 obtain⟨j,rfl⟩:∃j,e=d+1+j:=⟨e-d-1,by omega⟩
 rw[Nat.pow_add,MO,<-Md,<-Md,h1]
 exact Na _ _
theorem pY (n:Nat):∀(m a:Nat),n-a<=m->(ai n a).Nodup:=by
 intro m
 induction m with
 |zero=>intro a hm;rw[cO (by omega)];exact List.nodup_nil
 |succ m ih=>
  intro a hm
  by_cases h:a< n
  ·rw[fH h,List.nodup_append]
   refine⟨ih _ (by omega),List.nodup_cons.2 ⟨?_,ih _ (by omega)⟩,?_⟩
   ·rw[lQ n m _ (by omega)]
    rintro⟨_,d,he⟩
    have:=Na (a+1) (2 ^ d)
    omega
   ·intro x hx y hy hxy
    subst hxy
    rw[lQ n m _ (by omega)]at hx
    obtain⟨_,d,hd⟩:=hx
    rcases List.mem_cons.1 hy with rfl|hy
    ·have:=Na (x+1) (2 ^ d)
     omega
    ·rw[lQ n m _ (by omega)]at hy
     obtain⟨_,e,he⟩:=hy
     rcases Nat.lt_trichotomy d e with hde|hde|hde
     ·have:=CK hde hd;omega
     ·subst hde;omega
     ·have:=CK hde he;omega
  ·rw[cO h];exact List.nodup_nil
theorem zP (n:Nat):(ai n 0).Perm (Lt n):=by
 rw[List.perm_ext_iff_of_nodup (pY n n 0 (by omega)) List.nodup_range]
 intro x
 rw[iF,List.mem_range]
theorem az (n:Nat):(ai n 0).length=n:=by rw[(zP n).length_eq,List.length_range]
theorem eU {n x:Nat} (h:x∈ai n 0):x< n:=(iF n x).1 h
theorem CS (n:Nat):∀a,(ai n a).Sublist (ai n 0):=by
 intro a
 induction a using Ng with
 |_ a ih=>
  by_cases h0:a=0
  ·subst h0;exact List.Sublist.refl _
  ·refine List.Sublist.trans ?_ (ih ((a-1)/2) (by omega))
   by_cases hp:(a-1)/2< n
   ·rw[fH hp]
    rcases Nat.mod_two_eq_zero_or_one a with h|h
    ·rw[show 2*((a-1)/2)+2=a by omega]
     exact(List.sublist_cons_self _ _).trans (List.sublist_append_right _ _)
    ·rw[show 2*((a-1)/2)+1=a by omega]
     exact List.sublist_append_left _ _
   ·rw[cO (a:=a) (by omega)];exact List.nil_sublist _
theorem rD (n a:Nat):(ai n a).length<=n:=by have:=(CS n a).length_le;rwa [az]at this
def ranks (n:Nat):List Nat:=(Lt n).map fun at_=>(ai n 0).idxOf at_
theorem eu (n:Nat):(ranks n).length=n:=by simp[ranks]
theorem lC {n a:Nat} (h:a< n):(ranks n)[a]'(by rw[eu];exact h)=(ai n 0).idxOf a:=by simp[ranks]
theorem iO {n a:Nat} (h:a< n):(ai n 0).idxOf a< n:=by
 have:=List.idxOf_lt_length_iff.2 ((iF n a).2 h)
 rwa [az]at this
theorem oH {n a:Nat} (h:a< n):(ai n 0)[(ai n 0).idxOf a]'(by rw[az];exact iO h)=a:=List.getElem_idxOf _
theorem iA {n k:Nat} (h:k< (ai n 0).length):(ai n 0).idxOf ((ai n 0)[k]'h)=k:=(pY n n 0 (by omega)).idxOf_getElem k h
section
open Go.Shelf
def mG (n:Int):Int:=if n< 0 then 2 else if n>65536 then 4 else 0
theorem o9 (n:Int) (w:World):
  Calls prog 288 #[.int .i64 n] w fun r w'=>r= .returned (.int .i64 (mG n))/\w=w':=by
 go_enter func288,ntmps288
 go_wp2
 all_goals
  go_ret
  refine⟨aJ ?_,rfl⟩
  unfold mG
  first|(rw[if_pos (by assumption)])|(rw[if_neg (by omega),if_pos (by assumption)])|(rw[if_neg (by omega),if_neg (by omega)])
theorem nS (n a:Nat) (N Z:Int) (hN:N=n) (hZ:Z=a) (hn:n<=65536) (ha:a<=200000) (w:World):
  Calls prog 297 #[.int .i64 N,.int .i64 Z] w fun r w'=>r= .returned (.int .i64 (lm n a:Nat))/\w=w':=by
 subst hN hZ
 go_enter func297,ntmps297
 go_wp2
 go_loop [1] (fun i=>∃b:Nat,b<=200000/\i= .int .i64 b/\Hid (lm n b=lm n a)) (fun i=>n-(intOf i).toNat)
 case atStart=>exact⟨a,ha,rfl,rfl⟩
 case round=>
  obtain⟨b,hb,rfl,hl⟩:=hrel
  by_cases hlt:2*b+1< n
  ·go_wp2
   go_round
   case rel=>exact⟨2*b+1,by omega,by go_num,by rw[<-hl.out,<-Jf hlt];rfl⟩
   case measure=>simp[intOf];omega
  ·go_wp2
   go_ret
   exact⟨aJ (by rw[<-hl.out,E5 hlt]),rfl⟩
def GX (n a:Nat):Int:=match nx n a with|some x=>(x:Int)|none=>-1
theorem jE (n a:Nat) (N Z:Int) (hN:N=n) (hZ:Z=a) (hn:n<=65536) (ha:a< n) (w:World):
  Calls prog 298 #[.int .i64 N,.int .i64 Z] w fun r w'=>r= .returned (.int .i64 (GX n a))/\w=w':=by
 subst hN hZ
 by_cases h2:2*a+2< n
 ·go_enter func298,ntmps298
  go_wp2
  go_step3
  go_wp2_with (go_at_call 297;refine(nS n (2*a+2) _ _ rfl (by omega) hn (by omega) _).mono ?_;rintro e w1 ⟨rfl,rfl⟩)
  rw[Exit.noGoto_ret]
  go_ret
  exact⟨aJ (by simp[GX,nx,h2]),rfl⟩
 ·go_enter func298,ntmps298
  go_wp2
  go_step3
  go_wp2
  go_step3
  go_wp2
  go_loop [1] (fun i=>∃b:Nat,b<=a/\i= .int .i64 b/\Hid (Bp b=Bp a)) (fun i=>(intOf i).toNat)
  case atStart=>exact⟨a,KS _,rfl,rfl⟩
  case round=>
   obtain⟨b,hb,rfl,hl⟩:=hrel
   by_cases h0:b=0
   ·have hz:(((b:Nat):Int)==0)=true:=by simp[h0]
    have hr:Hid (GX n a=-1):=by unfold GX nx;rw[if_neg h2,<-hl.out,h0,yX];rfl
    clear h0
    go_wp2
    go_ret
    exact⟨aJ hr.out.symm,rfl⟩
   ·have hz:(((b:Nat):Int)==0)=false:=by simp[h0]
    by_cases h1:b %2=1
    ·have hz1:(((b:Nat):Int) %2==1)=true:=by simp;omega
     have hr:Hid (GX n a=((b-1)/2:Nat)):=by unfold GX nx;rw[if_neg h2,<-hl.out,Cz h1];rfl
     have h1':1<=b:=by omega
     clear h1 h0
     go_wp2
     go_ret
     exact⟨aJ (by rw[hr.out];omega),rfl⟩
    ·have hz1:(((b:Nat):Int) %2==1)=false:=by simp;omega
     have hr:Hid (Bp ((b-1)/2)=Bp a):=by rw[<-wN h0 h1];exact hl.out
     have h1':1<=b:=by omega
     clear h1 h0
     go_wp2
     go_round
     case rel=>exact⟨(b-1)/2,by omega,by congr 1;omega,hr⟩
     case measure=>simp[intOf];omega
attribute [local go_sem] Oper.semAt_some
def nW (n k:Nat):Array Value:=#[.int .i64 (k:Nat),.int .i64 ((ai n 0).getD k 0:Nat)]
theorem pM {n k x:Nat} (hx:(ai n 0)[k]?=some x):nW n k=#[.int .i64 (k:Nat),.int .i64 (x:Nat)]:=by
 simp[nW,List.getD,hx]
theorem sG {n k x y:Nat} (hx:(ai n 0)[k]?=some x) (hy:(ai n 0)[k+1]?=some y):GX n x=(y:Nat):=by
 unfold GX;rw[Co hx,hy]
theorem rV {n k x:Nat} (hx:(ai n 0)[k]?=some x) (hy:(ai n 0)[k+1]?=none):GX n x=-1:=by
 unfold GX;rw[Co hx,hy]
theorem si (n B:Nat) (hn:n<=65536) (w:World)
  (hc:w.cell? ⟨B,0,none⟩=some (.int .i64 (n:Nat))):
  Yields Fence.wide prog 296 #[.pointer (some ⟨B,0,none⟩)] n (nW n) (fun b=>b=B) (fun _=>False) w:=by
 intro l I X W hsz hKp hI hX hY h0
 have hcW:W.cell? ⟨B,0,none⟩=some (.int .i64 (n:Nat)):=(Mf (hKp B rfl)).trans hc
 have hdd:∀k:Nat,(Fence.wide.depth.isSome=true->1<=k):=fun k h=>by cases h
 have hwf:∀f,Fence.wide.fn f:=fun _=>trivial
 have hdp:Fence.wide.depth=none:=rfl
 have hro:Fence.wide.round=none:=rfl
 refine callsIn_of_wp func296 rfl (hwf _) ?_ hro
 simp only[ntmps296,Ll,List.length_cons,List.length_nil,LD,LF,Array.replicate_succ,Array.replicate_zero,Mq,Me,LA,Mr]
 refine oP 0 (fun a' w'=>∃(k x:Nat) (v2 v5 v6 v7 v8 v9 v10 v11 v12 v13 v14 v15 v16 v17 v18 v19 v20:Value),(ai n 0)[k]?=some x/\
   a'={tmps:=#[.func (.yield l) #[] #[],.pointer (some ⟨B,0,none⟩),v2,.int .i64 (k:Nat),.int .i64 (x:Nat),v5,v6,v7,v8,v9,v10,v11,v12,v13,v14,v15,v16,v17,v18,v19,v20],defers:=[]}/\
   I k w'/\w'.cell? ⟨B,0,none⟩=some (.int .i64 (n:Nat)))
  (fun a' _=>n-(intOf (a'.tmps.getD 3 undef)).toNat) rfl ?first ?pass
 case first=>
  by_cases hn0:n=0
  ·have hz:(((n:Nat):Int)==0)=true:=by simp[hn0]
   have hHl:=KO (show 0=n from hn0.symm)
   clear hn0 hY hKp hI hX
   gi_wp2
   simp only[Exit.jump]
   refine KV (L6 rfl _ _ _) rfl ?_
   exact⟨⟨_,rfl⟩,.inl (hHl.out ▸ h0)⟩
  ·have hz:(((n:Nat):Int)==0)=false:=by simp[hn0]
   have hx:(ai n 0)[0]?=some (lm n 0):=by
    have h1:0< n:=by omega
    have h2:0< (ai n 0).length:=by rw[az];exact h1
    rw[K7 h2,kE h1 h2]
   have hY':=hY 0 W (by omega) h0
   rw[pM hx,show((0:Nat):Int)=0 from rfl]at hY'
   obtain⟨fn,tmps,assign,body,hy,hR⟩:=hY'
   clear hY hKp hI hX hn0
   gi_wp2_with ((try refine⟨hdd _,?_⟩);gi_at_call 297;refine(callsIn_wide.2 (nS n 0 _ _ rfl rfl hn (by omega) _)).mono ?_;rintro e w1 ⟨rfl,rfl⟩)
   refine wpIn_label ?_
   gi_wp2
   refine hR.mono ?_
   clear hR hy
   rintro e W2 (⟨rfl,hi2,hs2,hk2⟩|⟨rfl,hx2⟩)
   ·have hcw2:W2.cell? ⟨B,0,none⟩=some (.int .i64 (n:Nat)):=(Mf (hk2 B rfl)).trans hcW
    have hxn:=eU (M7 hx)
    clear hk2
    rcases hnext:(ai n 0)[0+1]? with _|y
    ·have hH:=KO (rV hx hnext)
     have hlen:0+1=n:=by
      have h1:=(List.getElem?_eq_none_iff.1 hnext)
      have h2:=(List.getElem?_eq_some_iff.1 hx).1
      rw[az]at h1 h2
      omega
     have hHl:=KO hlen
     have hHx:=KO hx
     clear hnext hlen hx
     gi_wp2_with ((try refine⟨hdd _,?_⟩);gi_at_call 298;refine(callsIn_wide.2 (jE n (lm n 0) _ _ rfl rfl hn hxn _)).mono ?_;rw[hH.out];rintro e w1 ⟨rfl,rfl⟩)
     simp only[Exit.jump]
     refine M0 (L6 rfl _ _ _) rfl ?_
     exact⟨⟨_,rfl⟩,.inl (hHl.out ▸ hi2)⟩
    ·have hH:=KO (sG hx hnext)
     have hkn:0+1< n:=by have:=(List.getElem?_eq_some_iff.1 hnext).1;rwa [az]at this
     have hHl:=KO hnext
     have hHx:=KO hx
     clear hnext hx
     gi_wp2_with ((try refine⟨hdd _,?_⟩);gi_at_call 298;refine(callsIn_wide.2 (jE n (lm n 0) _ _ rfl rfl hn hxn _)).mono ?_;rw[hH.out];rintro e w1 ⟨rfl,rfl⟩)
     refine wpIn_goto ?_
     refine⟨rfl,⟨1,y,_,_,_,_,_,_,_,_,_,_,_,_,_,_,_,_,_,hHl.out,rfl,hi2,hcw2⟩⟩
   ·gi_wp2
    simp only[Exit.jump]
    refine KV (L6 rfl _ _ _) rfl ?_
    exact⟨⟨_,rfl⟩,.inr hx2⟩
 case pass=>
  rintro a' w' ⟨k,x,v2,v5,v6,v7,v8,v9,v10,v11,v12,v13,v14,v15,v16,v17,v18,v19,v20,hx,rfl,hi,hcw⟩
  have hk:k< n:=by rw[<-az n];exact(List.getElem?_eq_some_iff.1 hx).1
  have hY':=hY k w' hk hi
  rw[pM hx]at hY'
  obtain⟨fn,tmps,assign,body,hy,hR⟩:=hY'
  clear hY hKp hI hX
  gi_wp2
  refine hR.mono ?_
  clear hR hy
  rintro e W2 (⟨rfl,hi2,hs2,hk2⟩|⟨rfl,hx2⟩)
  ·have hcw2:W2.cell? ⟨B,0,none⟩=some (.int .i64 (n:Nat)):=(Mf (hk2 B rfl)).trans hcw
   have hxn:=eU (M7 hx)
   clear hk2
   rcases hnext:(ai n 0)[k+1]? with _|y
   ·have hH:=KO (rV hx hnext)
    have hlen:k+1=n:=by
     have h1:=(List.getElem?_eq_none_iff.1 hnext)
     have h2:=(List.getElem?_eq_some_iff.1 hx).1
     rw[az]at h1 h2
     omega
    have hHl:=KO hlen
    clear hnext hlen
    gi_wp2_with ((try refine⟨hdd _,?_⟩);gi_at_call 298;refine(callsIn_wide.2 (jE n x _ _ rfl rfl hn hxn _)).mono ?_;rw[hH.out];rintro e w1 ⟨rfl,rfl⟩)
    simp only[Exit.jump]
    refine M0 (L6 rfl _ _ _) rfl ?_
    exact⟨⟨_,rfl⟩,.inl (hHl.out ▸ hi2)⟩
   ·have hH:=KO (sG hx hnext)
    have hkn:k+1< n:=by have:=(List.getElem?_eq_some_iff.1 hnext).1;rwa [az]at this
    have hHl:=KO hnext
    clear hnext
    gi_wp2_with ((try refine⟨hdd _,?_⟩);gi_at_call 298;refine(callsIn_wide.2 (jE n x _ _ rfl rfl hn hxn _)).mono ?_;rw[hH.out];rintro e w1 ⟨rfl,rfl⟩)
    refine wpIn_goto ?_
    refine⟨rfl,⟨k+1,y,_,_,_,_,_,_,_,_,_,_,_,_,_,_,_,_,_,hHl.out,rfl,hi2,hcw2⟩,?_⟩
    show n-(((k:Int)+1)).toNat< n-((k:Int)).toNat
    omega
  ·gi_wp2
   simp only[Exit.jump]
   refine KV (L6 rfl _ _ _) rfl ?_
   exact⟨⟨_,rfl⟩,.inr hx2⟩
theorem qP (n:Nat) (w:World):
  Calls prog 289 #[.int .i64 (n:Nat)] w fun r w'=>
   r= .returned (.func (.func 296) #[] #[.pointer (some ⟨w.heap.size,0,none⟩)])/\w'=w.alloc (.cells #[.int .i64 (n:Nat)] 3):=by
 go_enter func289,ntmps289
 go_wp2
 go_ret
 exact⟨rfl,rfl⟩
theorem xw:(prog.info? 3).map (fun i=>(i.zero,i.size,i.bytes))=some (some (.int .i64 0),1,8):=by kernel_rfl
theorem xm (n:Nat) (hn:n<=65536) (w:World):
  Calls prog 282 #[.int .i64 (n:Nat)] w fun r w'=>r= .returned (.tuple #[.slice (some ⟨w.heap.size,0,none⟩) n n,.int .i64 0])/\
   Blk w' w.heap.size 3 ((ranks n).map fun k=>LB .i64 (k:Nat)).toArray/\Below w.heap.size w w':=by
 refine bD (_F:=Fence.wide) ?_
 have hdd:∀k:Nat,(Fence.wide.depth.isSome=true->1<=k):=fun k h=>by cases h
 have hwf:∀f,Fence.wide.fn f:=fun _=>trivial
 have hdp:Fence.wide.depth=none:=rfl
 have hro:Fence.wide.round=none:=rfl
 obtain⟨i0,hi,hz0,hz1,hz2⟩:=LU xw
 have hmk:=fun W=>aW (P:=prog) 27 3 i0 (.int .i64 0) underlying27 hi hz0 n (by rw[hz2];omega) (by omega) W
 rw[hz1]at hmk
 clear hi hz0 hz1 hz2
 refine callsIn_of_wp_marks func282 rfl (hwf _) ?_ hro
 simp only[ntmps282,Ll,List.length_cons,List.length_nil,LD,LF,Array.replicate_succ,Array.replicate_zero,Mq,Me,LA,Mr]
 have hask:=KO (show mG (n:Nat)=0 by unfold mG;rw[if_neg (by omega),if_neg (by omega)])
 gi_wp2_with (first
  |((try refine⟨hdd _,?_⟩);gi_at_call 288;refine(callsIn_wide.2 (o9 _ _)).mono ?_;rw[hask.out];rintro e w1 ⟨rfl,rfl⟩)
  |((try refine⟨hdd _,?_⟩);gi_at_call 289;refine(callsIn_wide.2 (qP _ _)).mono ?_;rintro e w1 ⟨rfl,rfl⟩))
 obtain⟨g,hg⟩:∃g,w.heap.size=g:=⟨_,rfl⟩
 obtain⟨W0,hW0⟩:∃W0,(((w.alloc (Obj.cells (madeCells #[.int .i64 0] n) 3)).alloc (Obj.cells #[.slice (some {block:=w.heap.size,off:=0}) n n] 27)).alloc (Obj.cells #[.int .i64 (n:Nat)] 3))=W0:=⟨_,rfl⟩
 rw[hW0]
 have b0:Blk W0 w.heap.size 3 (madeCells #[.int .i64 0] n):=by rw[<-hW0];exact((Blk.new w _ _).alloc _).alloc _
 have b1:Blk W0 (w.heap.size+1) 27 #[.slice (some {block:=w.heap.size,off:=0}) n n]:=by
  rw[<-hW0];have:=Blk.new (w.alloc (Obj.cells (madeCells #[.int .i64 0] n) 3)) 27 #[.slice (some {block:=w.heap.size,off:=0}) n n]
  rw[KX]at this
  exact this.alloc _
 have b2:Blk W0 (w.heap.size+1+1) 3 #[.int .i64 (n:Nat)]:=by
  rw[<-hW0];have:=Blk.new ((w.alloc (Obj.cells (madeCells #[.int .i64 0] n) 3)).alloc (Obj.cells #[.slice (some {block:=w.heap.size,off:=0}) n n] 27)) 3 #[.int .i64 (n:Nat)]
  rwa [KX,KX]at this
 have hb0:Below w.heap.size w W0:=by
  rw[<-hW0];exact(((KR _ w).alloc (KS _) _).alloc (by simp) _).alloc (by simp;omega) _
 have hs0:W0.heap.size=w.heap.size+3:=by rw[<-hW0];simp
 clear hW0 hmk
 rw[hg]at b0 b1 b2 hb0 hs0 ⊢
 refine kG hdp hwf hro rfl (enters_of func296 (by kernel_rfl) rfl)
  (si n (g+1+1) hn W0 (b2.cell 0)) (by rintro b rfl;omega) (fun _ h=>h.elim) (fun _=>rfl)
  (fun k W=>∃cur:Array Value,cur.size=n/\Blk W g 3 cur/\Blk W (g+1) 27 #[.slice (some {block:=g,off:=0}) n n]/\Below g w W/\
   ∀j x,j< k->(ai n 0)[j]?=some x->cur[x]?=some (.int .i64 (j:Nat)))
  (fun _ _=>False)
  (fun k=>[(17,.int .i64 (k:Nat)),(18,.int .i64 ((ai n 0).getD k 0:Nat)),(6,.int .i64 (k:Nat)),(7,.int .i64 ((ai n 0).getD k 0:Nat))])
  ?stab (fun _ _ _ h _=>h) ⟨_,by simp[madeCells],b0,b1,hb0,by omega⟩ ?assign ?body ?done (fun _ _ h _=>h.elim)
 case stab=>
  rintro k A B ⟨cur,hcs,hB0,hB1,hbl,hc⟩ hm
  refine⟨cur,hcs,hB0.mod hm (by simp;omega),hB1.mod hm (by simp;omega),?_,hc⟩
  exact hbl.trans (hm.below (by have:=hB0.lt;omega) (by rintro k (h|h|h) <;> first|exact h.elim|omega))
 case assign=>
  intro l k hk A C hC
  simp only[nW]
  gi_wp2
  exact hC
 case body=>
  rintro l k hk A ⟨cur,hcs,hB0,hB1,hbl,hc⟩ hsA
  have hkl:k< (ai n 0).length:=by rw[az];exact hk
  obtain⟨x,hx⟩:∃x,(ai n 0)[k]?=some x:=⟨_,K7 hkl⟩
  have hxn:x< n:=eU (M7 hx)
  rw[show(ai n 0).getD k 0=x by simp[List.getD,hx]]
  have hc1:A.cell? ⟨g+1,0,none⟩=some (.slice (some ⟨g,0,none⟩) n n):=hB1.cell 0
  obtain⟨vx,hcx⟩:∃vx,A.cell? ⟨g,x,none⟩=some vx:=⟨_,(hB0.cell x).trans (Array.getElem?_eq_getElem (show x< cur.size by omega))⟩
  have hfx:A.frozen? ⟨g,x,none⟩=false:=hB0.frozen x
  have hxi:(0:Int)<=(x:Int):=by omega
  have hH:=KO hx
  have hHc:=KO hc
  have hHs:=KO hcs
  clear hx hc hcs
  simp only[rt,List.foldl_cons,List.foldl_nil]
  gi_wp2
  refine⟨(Mod.refl _ _).setCell (p:=⟨g,x,none⟩) (by simp;omega) _,_,?_,hB0.set_ x _,hB1.far (p:=⟨g,x,none⟩) (by simp) _,hbl.setCell (p:=⟨g,x,none⟩) (KS _) _,?_⟩
  ·simpa using hHs.out
  ·intro j y hj hy
   have hcs:=hHs.out
   by_cases hjk:j=k
   ·subst hjk
    rw[hH.out]at hy
    obtain rfl:=Option.some.inj hy
    simp[hcs,hxn]
   ·have hy':=hHc.out j y (by omega) hy
    have hne:x≠y:=by
     intro e
     subst e
     have h1:=List.getElem?_eq_some_iff.1 hy
     have h2:=List.getElem?_eq_some_iff.1 hH.out
     have e1:=iA h1.1
     have e2:=iA h2.1
     rw[h1.2]at e1
     rw[h2.2]at e2
     exact hjk (e1.symm.trans e2)
    rw[Array.getElem?_setIfInBounds_ne hne]
    exact hy'
 case done=>
  rintro W ⟨cur,hcs,hB0,hB1,hbl,hc⟩ hD
  have hc1:W.cell? ⟨g+1,0,none⟩=some (.slice (some ⟨g,0,none⟩) n n):=hB1.cell 0
  have hHc:=KO hc
  have hHs:=KO hcs
  clear hc hcs
  gi_wp2
  subst hg
  refine Aj rfl hD ⟨rfl,?_,?_⟩
  ·have hcur:cur=((ranks n).map fun k=>LB .i64 (k:Nat)).toArray:=by
    have hcs:=hHs.out
    refine Array.ext (by simp[eu,hcs]) fun i h1 h2=>?_
    have hi:i< n:=by omega
    have h:=hHc.out _ i (iO hi) (by rw[K7 (by rw[az];exact iO hi),oH hi])
    rw[Array.getElem?_eq_getElem h1]at h
    simp[Option.some.inj h,lC hi]
   rw[<-hcur]
   exact hB0.of (K9 (by have:=hB0.lt;omega))
  ·exact hbl.trans ⟨rfl,rfl,rfl,by simp[World.putObj],fun k hk=>K9 (by omega)⟩
end
def dW (e:TypeId) (s n:Nat) (xs:List Value) (w:World) (r:Ending) (w':World):Prop:=
 ∃A c,r= .returned (.slice A n c)/\w'.ownsRow w.heap.size e s (.slice A n c) n xs/\Below w.heap.size w w'
theorem ui:∀(m n a:Nat) (N Z:Int) (w:World),N=n->Z=a->n<=65536->a<=200000->n-a<=m->
  Calls prog 163 #[.int .i64 N,.int .i64 Z] w (dW 3 1 (ai n a).length ((ai n a).map DL) w):=by
 intro m
 induction m with
 |zero=>
  rintro n a N Z w rfl rfl hn ha hm
  have hlt:¬a< n:=by omega
  go_enter func163,ntmps163
  go_wp2_with fail
  go_ret
  rw[cO hlt]
  exact⟨none,0,rfl,Li _ _ _ _,KR _ _⟩
 |succ m ih=>
  rintro n a N Z w rfl rfl hn ha hm
  by_cases hlt:a< n
  ·obtain⟨i0,hi,hz0,hz1,hz2⟩:=LU xw
   have IH:=KO ih
   clear ih
   have l1:=rD n (2*a+1)
   have l2:=rD n (2*a+2)
   have l3:=rD n a
   have Hlen:=KO (show(ai n a).length=(ai n (2*a+1)).length+1+(ai n (2*a+2)).length by rw[fH hlt];simp;omega)
   have l4:(ai n (2*a+1)).length+1+(ai n (2*a+2)).length<=65536:=by rw[<-Hlen.out];omega
   go_enter func163,ntmps163
   go_wp2_with fail
   refine(IH.out n (2*a+1) _ _ _ rfl (by omega) hn (by omega) (by omega)).mono ?_
   rintro e w1 ⟨A1,c1,rfl,hown1,hb1⟩
   go_wp2_with (at_builtin;refine ag _ rfl (.tmp 13) (.tmp 15) _ rfl w.heap.size 3 i0 _ 1 8 underlying27 hi hz0 hz1 hz2 rfl (by omega) (.slice A1 (ai n (2*a+1)).length c1) _ _ rfl (hown1.alloc _) _ 1 _ [DL a] rfl ((Blk.new w1 _ _).sl 0 _ (by intro j u hu;simpa[DL]using hu)) (by simp) (by simp[DL,K5]) (by unfold maxLen;omega) (by omega) (by have:=hb1.size;simp;omega) ?_;intro v2 w2 hown2 hg2)
   have hb2:Below w.heap.size w w2:=(hb1.alloc hb1.size _).grown hg2 (by have:=hb1.size;simp;omega) (fun k hk=>(hown1.lt k hk).1)
   refine(IH.out n (2*a+2) _ _ _ rfl (by omega) hn (by omega) (by omega)).mono ?_
   rintro e w3 ⟨A3,c3,rfl,hown3,hb3⟩
   have hown2':=own_below hown2 hb3
   have hb23:=aa hb2 hb3
   go_wp2_with (at_builtin;refine ag _ rfl (.tmp 17) (.tmp 22) _ rfl w.heap.size 3 i0 _ 1 8 underlying27 hi hz0 hz1 hz2 rfl (by omega) v2 _ _ rfl hown2' _ _ _ ((ai n (2*a+2)).map DL) rfl (aA hown3) (by simp) (by simp[DL,K5]) (by unfold maxLen;omega) (by omega) (by have:=hb23.size;omega) ?_;intro v4 w4 hown4 hg4)
   obtain⟨A4,c4,rfl,_,_⟩:=ak hown4
   go_ret
   refine⟨A4,c4,by rw[Hlen.out];rfl,?_,hb23.grown hg4 hb23.size (fun k hk=>(hown2'.lt k hk).1)⟩
   rw[Hlen.out,fH hlt]
   simpa using hown4
  ·go_enter func163,ntmps163
   go_wp2_with fail
   go_ret
   rw[cO hlt]
   exact⟨none,0,rfl,Li _ _ _ _,KR _ _⟩
theorem gP:(prog.info? 183).map (fun i=>(i.zero,i.size,i.bytes))=some (some (.agg #[.int .i64 0,.int .i64 0,.bool false]),3,24):=by kernel_rfl
def uK (l:List Ent) (i:Nat):Ent:=l.getD i ⟨0,0,false⟩
theorem fD {l:List Ent} {i:Nat} (h:i< l.length):uK l i=l[i]:=by simp[uK,List.getD,h]
def laid (l:List Ent):List Ent:=(ranks l.length).map (uK l)
theorem bL (l:List Ent):(laid l).length=l.length:=by simp[laid,eu]
theorem uo (A:Option Addr) (l:List Ent) (c:Nat) (w:World) (hA:Sl w A (l.flatMap Ent.cells)) (hl:l.length<=4611686018427387903):
  Calls prog 161 #[.slice A l.length c] w fun r w'=>r= .returned (.bool (rises (l.map Ent.key)))/\Below w.heap.size w w':=by
 go_enter func161,ntmps161
 go_wp2
 go_loopw [3] (fun i wr=>∃k:Nat,1<=k/\i= .int .i64 k/\Below w.heap.size w wr/\Hid (RiseTo (l.map Ent.key) k)) (fun i _=>l.length-(intOf i).toNat)
 case atStart=>exact⟨1,KS _,rfl,KR _ _,RiseTo.start _⟩
 case round=>
  obtain⟨k,hk,rfl,hb,hn⟩:=hrel
  by_cases hlt:k< l.length
  ·obtain⟨b,off,rfl,hbl,c1,c2,c3⟩:=hA.entB hb k hlt
   obtain⟨b',off',e,_,d1,d2,d3⟩:=hA.entB hb (k-1) (by omega)
   simp only[Option.some.injEq,Addr.mk.injEq]at e
   obtain⟨rfl,rfl,_⟩:=e
   have i0:(0:Int)<=(k:Int):=by omega
   have i1:(k:Int)< (l.length:Int):=by omega
   have i2:(0:Int)<=(k:Int)-1:=by omega
   have i3:(k:Int)-1< (l.length:Int):=by omega
   clear c2 c3 d2 d3 hA
   go_wp2
   go_quiet (fail)
   go_wp2
   ·have hx:(l[k]'hlt).key<=(l[k-1]'(by omega)).key:=by assumption
    go_ret
    refine⟨?_,ay hb _⟩
    rw[RiseTo.no hk (by simpa using hlt) (by simpa using hx)]
    rfl
   ·have hx:(l[k-1]'(by omega)).key< (l[k]'hlt).key:=by assumption
    go_roundw
    case rel=>exact⟨k+1,by omega,by go_num,ay hb _,hn.out.step hk (by simpa using hlt) (by simpa using hx)⟩
    case measure=>simp[intOf];omega
  ·go_wp2
   go_ret
   refine⟨?_,hb⟩
   rw[hn.out.all (by simp;omega)]
   rfl
theorem pR (A:Option Addr) (l:List Ent) (c:Nat) (w:World) (hA:Sl w A (l.flatMap Ent.cells)) (hl:l.length<=4611686018427387903):
  Calls prog 160 #[.slice A l.length c] w fun r w'=>r= .returned (.bool !(l.any bg))/\w=w':=by
 go_enter func160,ntmps160
 go_wp2
 go_loop [3] (fun i=>∃k:Nat,k<=l.length/\i= .int .i64 k/\Hid ((l.take k).any bg=false)) (fun i=>l.length-(intOf i).toNat)
 case atStart=>exact⟨0,K8 _,rfl,rfl⟩
 case round=>
  obtain⟨k,hk,rfl,hn⟩:=hrel
  by_cases hlt:k< l.length
  ·obtain⟨b,off,rfl,hbl,c1,c2,c3⟩:=hA.ent k hlt
   have i0:(0:Int)<=(k:Int):=by omega
   have i1:(k:Int)< (l.length:Int):=by omega
   obtain⟨e,he⟩:∃e,l[k]'hlt=e:=⟨_,rfl⟩
   have HE:=KO he
   rw[he]at c1 c2 c3
   clear he hA c1
   obtain⟨ek,ev,ed⟩:=e
   cases ed
   ·dsimp only at c2 c3
    go_wp2
    go_round
    case rel=>exact⟨k+1,by omega,by go_num,by show _=false;rw[Lc hlt,List.any_append,hn.out,HE.out];rfl⟩
    case measure=>simp[intOf];omega
   ·dsimp only at c2 c3
    by_cases hv:ev=0
    ·have hv1:(ev !=0)=false:=by simp[hv]
     clear hv
     go_wp2
     go_round
     case rel=>exact⟨k+1,by omega,by go_num,by show _=false;rw[Lc hlt,List.any_append,hn.out,HE.out];simp[bg,hv1]⟩
     case measure=>simp[intOf];omega
    ·have hv1:(ev !=0)=true:=by simp[hv]
     clear hv
     go_wp2
     go_ret
     refine⟨?_,rfl⟩
     rw[List.any_eq_true.2 ⟨_,Lh hlt,by rw[HE.out];simp[bg,hv1]⟩]
     rfl
  ·go_wp2
   go_ret
   refine⟨?_,rfl⟩
   have:=hn.out
   rw[KZ (by omega)]at this
   rw[this]
   rfl
theorem qw (A B:Option Addr) (l m:List Ent) (c d:Nat) (w:World) (hA:Sl w A (l.flatMap Ent.cells)) (hB:Sl w B (m.flatMap Ent.cells)) (_hl:l.length<=4611686018427387903) (hm:m.length<=4611686018427387903):
  Calls prog 105 #[.slice A l.length c,.slice B m.length d] w fun r w'=>r= .returned (.bool (decide (l=m)))/\Below w.heap.size w w':=by
 by_cases hlen:l.length=m.length
 ·have hz:((l.length:Int)!=(m.length:Int))=false:=by simp[hlen]
  have hz2:(l.length:Int)<=(m.length:Int):=by omega
  have HL:=KO hlen
  clear hlen
  go_enter func105,ntmps105
  go_wp2
  go_loopw [5] (fun i wr=>∃k:Nat,k<=l.length/\i= .int .i64 k/\Below w.heap.size w wr/\Hid (l.take k=m.take k)) (fun i _=>l.length-(intOf i).toNat)
  case atStart=>exact⟨0,K8 _,rfl,KR _ _,rfl⟩
  case round=>
   obtain⟨k,hk,rfl,hb,hn⟩:=hrel
   by_cases hlt:k< l.length
   ·have hlt2:k< m.length:=by omega
    obtain⟨b,off,rfl,hbl,c1,c2,c3⟩:=hA.entB hb k hlt
    obtain⟨b',off',rfl,hbl',d1,d2,d3⟩:=hB.entB hb k hlt2
    have i0:(0:Int)<=(k:Int):=by omega
    have i1:(k:Int)< (l.length:Int):=by omega
    have i2:(k:Int)< (m.length:Int):=by omega
    clear hA hB
    have hne:=fun w=>pz (l[k]'hlt) (m[k]'hlt2) w
    have hgu:=o7
    go_wp2
    go_quiet (fail)
    clear hne hgu
    go_wp2
    ·have hx:GY (l[k]'hlt) (m[k]'hlt2)=true:=by assumption
     go_ret
     refine⟨aC ?_,ay hb _⟩
     symm
     rw[decide_eq_false_iff_not]
     rintro rfl
     simp[GY]at hx
    ·have hx:GY (l[k]'hlt) (m[k]'hlt2)=false:=by assumption
     go_roundw
     case rel=>
      refine⟨k+1,by omega,by go_num,ay hb _,?_⟩
      show _=_
      rw[Lc hlt,Lc hlt2,hn.out]
      simp[GY]at hx
      rw[hx]
     case measure=>simp[intOf];omega
   ·go_wp2
    go_ret
    refine⟨aC ?_,hb⟩
    have:=hn.out
    rw[KZ (by omega),KZ (by have:=HL.out;omega)]at this
    rw[this,decide_eq_true rfl]
 ·have hz:((l.length:Int)!=(m.length:Int))=true:=by simp;omega
  have HL:=KO hlen
  clear hlen
  go_enter func105,ntmps105
  go_wp2
  go_ret
  refine⟨aC ?_,KR _ _⟩
  symm
  rw[decide_eq_false_iff_not]
  rintro rfl
  exact HL.out rfl
def bQ (l:List Ent):Int:=if l.length>65536 then 4 else if l.any bg then 8 else if rises (l.map Ent.key)then 0 else 130
def jS (l:List Ent):List Ent:=if bQ l=0 then laid l else[]
def jL (t:TypeId) (m:List Ent) (e:Int) (w:World) (r:Ending) (w':World):Prop:=
 ∃A c,r= .returned (.tuple #[.agg #[.slice A m.length c],.int .i64 e])/\w'.ownsRow w.heap.size t 3 (.slice A m.length c) m.length (m.flatMap Ent.cells)/\Below w.heap.size w w'
theorem jV {t:TypeId} {e:Int} {w w':World} (h:Below w.heap.size w w') {m:List Ent} (hm:m=[]):jL t m e w (.returned (.tuple #[.agg #[.slice none 0 0],.int .i64 e])) w':=by
 subst hm;exact⟨none,0,rfl,Li _ _ _ _,h⟩
theorem D5 {l:List Ent} (h1:¬l.length>65536) (h2:l.any bg=true):bV l=8:=by unfold bV;rw[if_neg h1,if_pos h2]
theorem FV {l:List Ent} (h1:¬l.length>65536) (h2:l.any bg=false):bV l=0:=by unfold bV;rw[if_neg h1,h2];rfl
theorem Fb (A:Option Addr) (l:List Ent) (c:Nat) (w:World) (hA:Sl w A (l.flatMap Ent.cells)) (hl:l.length<=4611686018427387903) (hno:bQ l≠0):
  Calls prog 269 #[.slice A l.length c] w (jL 183 (jS l) (bQ l) w):=by
 have hL:jS l=[]:=by unfold jS;rw[if_neg hno]
 have hb0:Below w.heap.size w (w.alloc (.cells #[.slice none 0 0] 145)):=(KR _ _).alloc (KS _) _
 have hA0:Sl (w.alloc (.cells #[.slice none 0 0] 145)) A (l.flatMap Ent.cells):=hA.below hb0
 rw[hL]
 by_cases hf:bV l=0
 ·have h1:¬l.length>65536:=by intro h;unfold bV at hf;rw[if_pos h]at hf;cases hf
  have h2:l.any bg=false:=by
   cases h:l.any bg with
   |false=>rfl
   |true=>rw[D5 h1 h]at hf;cases hf
  have h3:rises (l.map Ent.key)=false:=by
   cases h:rises (l.map Ent.key)with
   |false=>rfl
   |true=>exact absurd (show bQ l=0 by unfold bQ;rw[if_neg h1,h2,h];rfl) hno
  have he:bQ l=130:=by unfold bQ;rw[if_neg h1,h2,h3];rfl
  have H3:=KO (show je l=130 by unfold je;rw[h3];rfl)
  have HF:=KO hf
  rw[he]
  clear he h2 h3 hf hL hno
  go_enter func269,ntmps269
  go_wp2_with fail
  refine(kC A l c _ hA0 hl).mono ?_
  rw[HF.out]
  rintro e w1 ⟨rfl,hb1⟩
  have hb01:Below w.heap.size w w1:=aa hb0 hb1
  have hA1:=hA0.below hb1
  go_wp2_with fail
  refine(mH A l c _ hA1 hl).mono ?_
  rw[H3.out]
  rintro e w2 ⟨rfl,hb2⟩
  have hb02:Below w.heap.size w w2:=aa hb01 hb2
  have hx:Blk w2 w.heap.size 145 #[.slice none 0 0]:=((Blk.new w _ _).below hb1 (by simp)).below hb2 (by have:=hb1.size;simp at this;omega)
  have hc2:w2.cell? ⟨w.heap.size,0,none⟩=some (.slice none 0 0):=hx.cell 0
  have hf2:w2.frozen? ⟨w.heap.size,0,none⟩=false:=hx.frozen 0
  go_wp2
  refine KV (v:= .tuple #[.agg #[.slice none 0 0],.int .i64 130]) (by simp[results,results269,go_sem,hc2]) rfl (jV ?_ rfl)
  exact hb02.setCell (p:=⟨w.heap.size,0,none⟩) (KS _) _
 ·have he:bQ l=bV l:=by
   unfold bV at hf
   unfold bQ bV
   by_cases h1:l.length>65536
   ·rw[if_pos h1,if_pos h1]
   ·rw[if_neg h1]at hf
    rw[if_neg h1,if_neg h1]
    cases h:l.any bg with
    |true=>rfl
    |false=>rw[h]at hf;exact absurd rfl hf
  rw[he]
  obtain⟨q,hq⟩:∃q,bV l=q:=⟨_,rfl⟩
  rw[hq]at hf ⊢
  have HF:=KO hq
  have hz:(q !=0)=true:=by simpa using hf
  clear hq hf he hL hno
  go_enter func269,ntmps269
  go_wp2_with fail
  refine(kC A l c _ hA0 hl).mono ?_
  rw[HF.out]
  rintro e w1 ⟨rfl,hb1⟩
  have hb01:Below w.heap.size w w1:=aa hb0 hb1
  have hx:Blk w1 w.heap.size 145 #[.slice none 0 0]:=(Blk.new w _ _).below hb1 (by simp)
  have hc2:w1.cell? ⟨w.heap.size,0,none⟩=some (.slice none 0 0):=hx.cell 0
  have hf2:w1.frozen? ⟨w.heap.size,0,none⟩=false:=hx.frozen 0
  go_wp2
  refine KV (v:= .tuple #[.agg #[.slice none 0 0],.int .i64 q]) (by simp[results,results269,go_sem,hc2]) rfl (jV ?_ rfl)
  exact hb01.setCell (p:=⟨w.heap.size,0,none⟩) (KS _) _
theorem Et (A:Option Addr) (l:List Ent) (c:Nat) (w:World) (hA:Sl w A (l.flatMap Ent.cells)) (hl:l.length<=4611686018427387903) (hyes:bQ l=0):
  Calls prog 269 #[.slice A l.length c] w (jL 183 (jS l) (bQ l) w):=by
 have hL:jS l=laid l:=by unfold jS;rw[if_pos hyes]
 have hb0:Below w.heap.size w (w.alloc (.cells #[.slice none 0 0] 145)):=(KR _ _).alloc (KS _) _
 have hA0:Sl (w.alloc (.cells #[.slice none 0 0] 145)) A (l.flatMap Ent.cells):=hA.below hb0
 have h1:¬l.length>65536:=by intro h;unfold bQ at hyes;rw[if_pos h]at hyes;cases hyes
 have h2:l.any bg=false:=by
  cases h:l.any bg with
  |false=>rfl
  |true=>unfold bQ at hyes;rw[if_neg h1,h]at hyes;cases hyes
 have h3:rises (l.map Ent.key)=true:=by
  cases h:rises (l.map Ent.key)with
  |true=>rfl
  |false=>unfold bQ at hyes;rw[if_neg h1,h2,h]at hyes;cases hyes
 have HF:=KO (FV h1 h2)
 have H3:=KO (show je l=0 by unfold je;rw[h3];rfl)
 rw[hL,hyes]
 clear h2 h3 hL hyes
 obtain⟨i0,hi,hz0,hz1,hz2⟩:=LU gP
 have hmk:=fun W=>aW (P:=prog) 143 183 i0 _ underlying143 hi hz0 l.length (by rw[hz2];omega) (by omega) W
 rw[hz1]at hmk
 clear hi hz0 hz1 hz2
 go_enter func269,ntmps269
 go_wp2_with fail
 refine(kC A l c _ hA0 hl).mono ?_
 rw[HF.out]
 rintro e w1 ⟨rfl,hb1⟩
 have hb01:Below w.heap.size w w1:=aa hb0 hb1
 have hA1:=hA0.below hb1
 go_wp2_with fail
 refine(mH A l c _ hA1 hl).mono ?_
 rw[H3.out]
 rintro e w2 ⟨rfl,hb2⟩
 have hb02:Below w.heap.size w w2:=aa hb01 hb2
 have hs2:w.heap.size< w2.heap.size:=by have:=hb1.size;have:=hb2.size;simp at*;omega
 have hx2:Blk w2 w.heap.size 145 #[.slice none 0 0]:=((Blk.new w _ _).below hb1 (by simp)).below hb2 (by have:=hb1.size;simp at this;omega)
 go_wp2_with fail
 refine(xm l.length (by omega) _).mono ?_
 rintro e w3 ⟨rfl,ho3,hb3⟩
 simp only[KX]at ho3 hb3
 have hb23:Below w2.heap.size w2 w3:=((KR _ _).alloc (KS _) _).trans (hb3.mono (by omega))
 have hb03:Below w.heap.size w w3:=aa hb02 hb23
 have hx3:=hx2.below hb23 hs2
 have hg3:=(Blk.new w2 183 (madeCells (Value.agg #[.int .i64 0,.int .i64 0,.bool false]).cells (l.length*3))).below hb3 (by omega)
 have hA3:Sl w3 A (l.flatMap Ent.cells):=hA.below hb03
 clear hmk hb3 hb0 hA0 hA1
 go_wp2
 go_loopw [34] (fun i wr=>∃k:Nat,k<=l.length/\i= .int .i64 k/\Mod (fun b=>b=w2.heap.size) w3 wr/\
   ∃cur:Array Value,Hid (cur.size=l.length*3)/\Blk wr w2.heap.size 183 cur/\Hid (cur.toList.take (k*3)=((laid l).take k).flatMap Ent.cells))
   (fun i _=>l.length-(intOf i).toNat)
 case atStart=>exact⟨0,K8 _,rfl,Mod.refl _ _,_,by show _=_;simp[madeCells,Value.cells],hg3,by show _=_;simp⟩
 case round=>
  obtain⟨k,hk,rfl,hm,cur,hcs,hcur,hct⟩:=hrel
  by_cases hlt:k< l.length
  ·have hb:Below w.heap.size w wr:=hb03.trans (hm.below hb03.size (by intro k h;omega))
   have hrl:k< (ranks l.length).length:=by rw[eu];exact hlt
   obtain⟨x,hx⟩:∃x,(ranks l.length)[k]'hrl=x:=⟨_,rfl⟩
   have hxn:x< l.length:=by rw[<-hx,lC hlt];exact iO hlt
   have ho4:=ho3.mod hm (by omega)
   have cr:wr.cell? ⟨w2.heap.size+1,k,none⟩=some (.int .i64 (x:Nat)):=by
    rw[ho4.cell];simp[hrl,hx]
   obtain⟨b,off,rfl,hbl,c1,c2,c3⟩:=hA.entB hb x hxn
   have hsz:=hcs.out
   obtain⟨v1,e1⟩:∃v,wr.cell? ⟨w2.heap.size,k*3,none⟩=some v:=⟨_,(hcur.cell _).trans (Array.getElem?_eq_getElem (show k*3< cur.size by omega))⟩
   obtain⟨v2,e2⟩:∃v,wr.cell? ⟨w2.heap.size,k*3+1,none⟩=some v:=⟨_,(hcur.cell _).trans (Array.getElem?_eq_getElem (show k*3+1< cur.size by omega))⟩
   obtain⟨v3,e3⟩:∃v,wr.cell? ⟨w2.heap.size,k*3+2,none⟩=some v:=⟨_,(hcur.cell _).trans (Array.getElem?_eq_getElem (show k*3+2< cur.size by omega))⟩
   have f1:=hcur.frozen (k*3)
   have f2:=hcur.frozen (k*3+1)
   have f3:=hcur.frozen (k*3+2)
   have hxi:(0:Int)<=(x:Int):=by omega
   have hxi2:(x:Int)< (l.length:Int):=by omega
   have hki:(0:Int)<=(k:Int):=by omega
   have hki2:(k:Int)< (l.length:Int):=by omega
   have hlk:Hid ((laid l)[k]'(by rw[bL];exact hlt)=l[x]'hxn):=by show _=_;simp[laid,hx,fD hxn]
   have hlt':k< (laid l).length:=by rw[bL];exact hlt
   have n1:=Nat.ne_of_lt hs2
   clear hx hsz
   go_wp2
   go_roundw
   case rel=>
    refine⟨k+1,by omega,by go_num,((hm.setCell (p:=⟨w2.heap.size,k*3,none⟩) rfl _).setCell (p:=⟨w2.heap.size,k*3+1,none⟩) rfl _).setCell (p:=⟨w2.heap.size,k*3+2,none⟩) rfl _,_,?_,((hcur.set_ (k*3) _).set_ (k*3+1) _).set_ (k*3+2) _,?_⟩
    ·show _=_;simpa using hcs.out
    ·show _=_
     rw[Eh _ _ _ (by rw[hcs.out];omega) hct.out,Lc hlt',L9,hlk.out]
     simp[Ent.cells]
   case measure=>simp[intOf];omega
  ·have hkn:=KO (show k=l.length by omega)
   have hb:Below w.heap.size w wr:=hb03.trans (hm.below hb03.size (by intro k h;omega))
   have hx4:=hx3.mod hm (by omega)
   have hc4:wr.cell? ⟨w.heap.size,0,none⟩=some (.slice none 0 0):=hx4.cell 0
   have hf4:wr.frozen? ⟨w.heap.size,0,none⟩=false:=hx4.frozen 0
   have HL:=KO (bL l)
   go_wp2
   refine KV (v:= .tuple #[.agg #[.slice (some ⟨w2.heap.size,0,none⟩) l.length l.length],.int .i64 0]) (by simp[results,results269,go_sem,hc4]) rfl ?_
   refine⟨some ⟨w2.heap.size,0,none⟩,l.length,by rw[HL.out],?_,hb.setCell (p:=⟨w.heap.size,0,none⟩) (KS _) _⟩
   rw[HL.out]
   have hct':=hct.out
   rw[hkn.out,KZ (l:=laid l) (by rw[HL.out];omega)]at hct'
   refine fe ⟨by rw[aQ Ent.cells 3 Ent.cells_length,HL.out],.inr ⟨w2.heap.size,l.length,cur,rfl,by omega,hcur,KS _,by unfold maxLen;omega,hcs.out,hct'⟩⟩ ?_ _
   simp[Value.ownBlock]
   omega
theorem vB (A:Option Addr) (l:List Ent) (c:Nat) (w:World) (hA:Sl w A (l.flatMap Ent.cells)) (hl:l.length<=4611686018427387903):
  Calls prog 269 #[.slice A l.length c] w (jL 183 (jS l) (bQ l) w):=by
 by_cases h:bQ l=0
 ·exact Et A l c w hA hl h
 ·exact Fb A l c w hA hl h
theorem wW (A B:Option Addr) (l m:List Ent) (c d:Nat) (w:World) (hA:Sl w A (l.flatMap Ent.cells)) (hB:Sl w B (m.flatMap Ent.cells)) (hl:l.length<=4611686018427387903) (hm:m.length<=4611686018427387903):
  Calls prog 91 #[.agg #[.slice A l.length c],.agg #[.slice B m.length d]] w fun r w'=>r= .returned (.bool (decide (l=m)))/\Below w.heap.size w w':=by
 have hb0:Below w.heap.size w ((w.alloc (.cells #[.slice A l.length c] 145)).alloc (.cells #[.slice B m.length d] 145)):=((KR _ _).alloc (KS _) _).alloc (by simp) _
 go_enter func91,ntmps91
 go_wp2_with (go_at_call 105;refine(qw A B l m c d _ (hA.below hb0) (hB.below hb0) hl hm).mono ?_;rintro e w1 ⟨rfl,hb1⟩)
 go_ret
 exact⟨rfl,aa hb0 hb1⟩
section
theorem Eu:(prog.info? 318).map (fun i=>(i.zero,i.size,i.bytes))=some (some (.agg #[.slice none 0 0,.int .i64 0]),2,32):=by kernel_rfl
structure Rm where
 l:List Ent
 A:Option Addr
 c:Nat
def Rm.v (r:Rm):Value:= .slice r.A r.l.length r.c
structure Rm.Ok (w:World) (r:Rm):Prop where
 sl:Sl w r.A (r.l.flatMap Ent.cells)
 lc:r.l.length<=r.c
 c:r.c<=maxLen
def hd1 (i:Nat) (r:Rm):List Hm:=match r.l with|[]=>[]|e::l=>[⟨⟨e,l,i⟩,r.A,r.l.length,r.c⟩]
def bO:Nat->List Rm->List Hm
 |_,[]=>[]
 |i,r::rs=>hd1 i r++bO (i+1) rs
theorem mh:∀(rs qs:List Rm) (i:Nat),bO i (rs++qs)=bO i rs++bO (i+rs.length) qs
 |[],qs,i=>rfl
 |r::rs,qs,i=>by rw[Mr,bO,bO,mh rs qs (i+1),List.append_assoc];congr 3;simp;omega
theorem su:∀(rs:List Rm) (i:Nat),(bO i rs).map Hm.h=gZ i (rs.map Rm.l)
 |[],i=>rfl
 |r::rs,i=>by
  rw[bO,MR,su rs (i+1),List.map_cons]
  unfold hd1
  cases h:r.l with
  |nil=>rfl
  |cons e l=>rfl
theorem qU:∀(rs:List Rm) (i:Nat),((bO i rs).map Hm.n).sum=(rs.map (fun r=>r.l.length)).sum
 |[],i=>rfl
 |r::rs,i=>by
  rw[bO,MR,List.sum_append,qU rs (i+1),List.map_cons,List.sum_cons]
  congr 1
  unfold hd1
  cases h:r.l with
  |nil=>rfl
  |cons e l=>simp
theorem mF:∀(rs:List Rm) (i:Nat),(bO i rs).length<=rs.length
 |[],i=>KS _
 |r::rs,i=>by
  rw[bO,List.length_append,List.length_cons]
  have:=mF rs (i+1)
  have:(hd1 i r).length<=1:=by unfold hd1;split <;> simp
  omega
theorem uI {w:World}:∀{rs:List Rm} {i:Nat},(∀r∈rs,r.Ok w)->∀m∈bO i rs,m.Ok w
 |[],i,_,m,hm=>by simp[bO]at hm
 |r::rs,i,h,m,hm=>by
  rw[bO]at hm
  rcases List.mem_append.1 hm with hm|hm
  ·have hr:=h r (by simp)
   unfold hd1 at hm
   split at hm
   ·simp at hm
   ·rename_i e l he
    obtain rfl:m=_:=by simpa using hm
    refine⟨?_,?_,hr.lc,hr.c⟩
    ·have:=hr.sl;rw[he]at this;exact this
    ·show r.l.length=_
     rw[he];rfl
  ·exact uI (fun q hq=>h q (by simp[hq])) m hm
def Gi (w:World) (g i:Nat):Nat:=match w.cell? ⟨g,i*2,none⟩with|some (.slice _ n _)=>n|_=>0
def JU (w:World) (p:Nat):Nat:=match w.cell? ⟨p,0,none⟩with|some (.slice (some a) n _)=>((Lt n).map (Gi w a.block)).sum|_=>0
theorem uC {w:World} {p g c:Nat} {Hs:List Hm} {F:Value} {t:TypeId} (hp:Blk w p t #[.slice (some ⟨g,0,none⟩) Hs.length c,F]) (hg:HeadsAt w g Hs):JU w p=(Hs.map Hm.n).sum:=by
 have h0:w.cell? ⟨p,0,none⟩=some (.slice (some ⟨g,0,none⟩) Hs.length c):=hp.cell 0
 unfold JU
 rw[h0]
 show((Lt Hs.length).map (Gi w g)).sum=_
 congr 1
 refine List.ext_getElem (by simp) fun i h1 h2=>?_
 rw[MQ,List.getElem_range,MQ]
 unfold Gi
 rw[(hg.cells i (by simpa using h2)).1]
theorem HeadsAt.put0 {w:World} {g:Nat} {m m':Hm} {Hs:List Hm} (h:HeadsAt w g (m::Hs)) (ha:m'.h.age=m.h.age):HeadsAt (w.setCell ⟨g,0,none⟩ (.slice m'.A m'.n m'.c)) g (m'::Hs):=by
 obtain⟨cur,hb,ht,hs⟩:=h
 refine⟨_,hb.set_ 0 _,?_,by simpa using hs⟩
 rw[Array.toList_setIfInBounds,List.take_set]
 rw[show(m'::Hs).length=(m::Hs).length from rfl,ht]
 simp[Hm.cells,ha]
structure Kmid (w0:World) (p g c S:Nat) (out:List Ent) (Hs:List Hm) (A':Option Addr) (c':Nat) (wr:World):Prop where
 own:wr.ownsRow S 183 3 (.slice A' out.length c') out.length (out.flatMap Ent.cells)
 pile:Blk wr p 322 #[.slice (some ⟨g,0,none⟩) Hs.length c,iM]
 heads:HeadsAt wr g Hs
 frame:Below w0.heap.size w0 wr
 size:S<=wr.heap.size
structure Kst (w0:World) (p g c S T:Nat) (rs:List (List Ent)) (out:List Ent) (Hs:List Hm) (A':Option Addr) (c':Nat) (wr:World):Prop where
 mid:Kmid w0 p g c S out Hs A' c' wr
 heap:eP (Hs.map Hm.h) 0
 inv:MInv rs out (Hs.map Hm.h)
 ok:∀m∈Hs,m.Ok w0
 tot:out.length+(Hs.map Hm.n).sum<=T
 hc:Hs.length<=c
 hl:Hs.length<=1099511627776
section
variable {w0 wr wc W:World} {p g c S T c' q2:Nat} {rs:List (List Ent)} {out:List Ent} {m m':Hm} {Hs:List Hm} {A' A2:Option Addr}
theorem Kmid.own_set (h:Kmid w0 p g c S out Hs A2 q2 wc) (hg:g< S) (v:Value):(wc.setCell ⟨g,0,none⟩ v).ownsRow S 183 3 (.slice A2 out.length q2) out.length (out.flatMap Ent.cells):=
 fe h.own (fun e=>by have:=(h.own.lt _ e).1;dsimp only at this;omega) v
theorem di {Sx:Nat->Prop} {w w':World} {B s n:Nat} {e:TypeId} {v:Value} {xs:List Value} (h:w.ownsRow B e s v n xs) (hm:Mod Sx w w') (hn:∀k,B<=k->¬Sx k):w'.ownsRow B e s v n xs:=by
 refine⟨h.1,?_⟩
 rcases h.2 with h2|⟨g,cap,cur,hv,hg,hh,r⟩
 ·exact .inl h2
 ·exact .inr ⟨g,cap,cur,hv,hg,(hm.block g (Array.getElem?_eq_some_iff.1 hh).1 (hn g hg)).trans hh,r⟩
theorem Cc (hK:Kst w0 p g c S T rs out (m::Hs) A' c' wr):∀x∈Hs.map Hm.h,hle m.h x:=by
 intro x hx
 obtain⟨i,hi,rfl⟩:=List.getElem_of_mem hx
 have:=EF hK.heap (i+1) (by simpa using hi)
 simpa using this
theorem Cg (_hr:∀r∈rs,RisE r) (_hK:Kst w0 p g c S T rs out (m::Hs) A' c' wr):(eF out m.h.e).length<=out.length+1:=by
 unfold eF;split <;> simp
theorem BU (hr:∀r∈rs,RisE r) (hK:Kst w0 p g c S T rs out (m::Hs) A' c' wr) (hrest:m.h.rest=[]) (hK2:Kmid w0 p g c S (eF out m.h.e) (m::Hs) A2 q2 wc) (hpg:p≠g) (hpS:p< S) (hgS:g< S) (hg0:w0.heap.size<=g) (hp0:w0.heap.size<=p)
  (hh:m'.h=m.h) (hW:wc.setCell ⟨g,0,none⟩ (.slice m'.A m'.n m'.c)=W):
  Blk W p 322 #[.slice (some ⟨g,0,none⟩) (Hs.length+1) c,iM]/\HeadsAt W g (m'::Hs)/\(∀x∈(m'::Hs).drop 1,x.Ok w0)/\Below w0.heap.size w0 W/\eP ((m'::Hs).map Hm.h) 0/\
   ∀r w',Gd p g c (m'::Hs) W r w'->(∃v,r= .returned v)/\∃Hs',Kst w0 p g c S T rs (eF out m.h.e) Hs' A2 q2 w'/\(Hs'.map Hm.n).sum< ((m::Hs).map Hm.n).sum:=by
 have hWb:Below w0.heap.size w0 W:=by rw[<-hW];exact hK2.frame.setCell (p:=⟨g,0,none⟩) hg0 _
 have hWo:=hK2.own_set hgS (.slice m'.A m'.n m'.c)
 rw[hW]at hWo
 have hWs:S<=W.heap.size:=by rw[<-hW];simpa[World.setCell]using hK2.size
 have hmn:1<=m.n:=by have:=(hK.ok m (by simp)).n;omega
 refine⟨?_,?_,fun x hx=>hK.ok x (by simp at hx;simp[hx]),hWb,?_,?_⟩
 ·rw[<-hW];exact hK2.pile.far (p:=⟨g,0,none⟩) hpg _
 ·rw[<-hW];exact hK2.heads.put0 (by rw[hh])
 ·have:=hK.heap
  rw[List.map_cons]at this ⊢
  rw[hh];exact this
 ·rintro r w' ⟨hv,Hs',hp',hh',hH',hpb,hm'⟩
  have hp1:Hs'.Perm Hs:=by simpa using hp'
  have hbw:Below w0.heap.size w0 w':=hWb.trans (hm'.below hWb.size (by intro k h;omega))
  refine⟨hv,Hs',⟨⟨di hWo hm' (by intro k hk h;omega),?_,hH',hbw,KY hWs hm'.size⟩,hh',?_,fun x hx=>hK.ok x (by simp[hp1.mem_iff.1 hx]),?_,?_,?_⟩,?_⟩
  ·rw[hp1.length_eq];simpa using hpb
  ·have h1:=hK.inv
   rw[List.map_cons]at h1
   have h2:=h1.step hr (Cc hK)
   have h3:kQ m.h=[]:=by unfold kQ;rw[hrest]
   rw[h3,LA]at h2
   exact h2.perm (hp1.map Hm.h)
  ·have h1:=hK.tot
   have h2:=(hp1.map Hm.n).sum_nat
   have h3:=Cg hr hK
   simp at h1
   omega
  ·have:=hK.hc;rw[hp1.length_eq];simp at this;omega
  ·have:=hK.hl;rw[hp1.length_eq];simp at this;omega
  ·have h2:=(hp1.map Hm.n).sum_nat
   simp
   omega
theorem Gw {e2:Ent} {l2:List Ent} (hr:∀r∈rs,RisE r) (hK:Kst w0 p g c S T rs out (m::Hs) A' c' wr) (hrest:m.h.rest=e2::l2) (hK2:Kmid w0 p g c S (eF out m.h.e) (m::Hs) A2 q2 wc) (hpg:p≠g) (_hpS:p< S) (hgS:g< S) (hg0:w0.heap.size<=g) (_hp0:w0.heap.size<=p)
  (hh:m'.h=⟨e2,l2,m.h.age⟩) (hmok:m'.Ok w0) (hmn:m'.n+1=m.n) (hW:wc.setCell ⟨g,0,none⟩ (.slice m'.A m'.n m'.c)=W):
  Blk W p 322 #[.slice (some ⟨g,0,none⟩) (Hs.length+1) c,iM]/\HeadsAt W g (m'::Hs)/\(∀x∈m'::Hs,x.Ok w0)/\Below w0.heap.size w0 W/\Sinks ((m'::Hs).map Hm.h) 0 0/\
   ∀r w',JH p g (m'::Hs) 0 W r w'->(∃v,r= .returned v)/\∃Hs',Kst w0 p g c S T rs (eF out m.h.e) Hs' A2 q2 w'/\(Hs'.map Hm.n).sum< ((m::Hs).map Hm.n).sum:=by
 have hWb:Below w0.heap.size w0 W:=by rw[<-hW];exact hK2.frame.setCell (p:=⟨g,0,none⟩) hg0 _
 have hWo:=hK2.own_set hgS (.slice m'.A m'.n m'.c)
 rw[hW]at hWo
 have hWs:S<=W.heap.size:=by rw[<-hW];simpa[World.setCell]using hK2.size
 have hWp:Blk W p 322 #[.slice (some ⟨g,0,none⟩) (Hs.length+1) c,iM]:=by rw[<-hW];exact hK2.pile.far (p:=⟨g,0,none⟩) hpg _
 have hokA:∀x∈m'::Hs,x.Ok w0:=by
  intro x hx
  rcases List.mem_cons.1 hx with rfl|hx
  ·exact hmok
  ·exact hK.ok x (by simp[hx])
 refine⟨hWp,?_,hokA,hWb,?_,?_⟩
 ·rw[<-hW];exact hK2.heads.put0 (by rw[hh])
 ·refine Sinks.start ?_
  intro j ci hci hj h1 hcc
  obtain⟨j,rfl⟩:∃k,j=k+1:=⟨j-1,by omega⟩
  obtain⟨ci,rfl⟩:∃k,ci=k+1:=⟨ci-1,by omega⟩
  have:=hK.heap (j+1) (ci+1) (by simpa using hci) hj (by omega) hcc
  simpa using this
 ·rintro r w' ⟨hv,Hs',hp',hh',hH',hm'⟩
  have hbw:Below w0.heap.size w0 w':=hWb.trans (hm'.below hWb.size (by intro k h;omega))
  have hsum:=(hp'.map Hm.n).sum_nat
  have hlen:=hp'.length_eq
  simp at hsum hlen
  refine⟨hv,Hs',⟨⟨di hWo hm' (by intro k hk h;omega),by rw[hlen];exact hWp.mod hm' hpg,hH',hbw,KY hWs hm'.size⟩,hh',?_,fun x hx=>hokA x (hp'.mem_iff.1 hx),?_,?_,?_⟩,?_⟩
  ·have h1:=hK.inv
   rw[List.map_cons]at h1
   have h2:=h1.step hr (Cc hK)
   have h3:kQ m.h=[⟨e2,l2,m.h.age⟩]:=by unfold kQ;rw[hrest]
   rw[h3]at h2
   refine h2.perm ?_
   have:=hp'.map Hm.h
   rw[List.map_cons,hh]at this
   exact this
  ·have h1:=hK.tot
   have h3:=Cg hr hK
   simp at h1
   omega
  ·have:=hK.hc;simp at this;omega
  ·have:=hK.hl;simp at this;omega
  ·simp
   omega
end
theorem Bi (w:World) (B:Option Addr) (Rs:List Rm) (cb T:Nat) (hB:Sl w B (Rs.map Rm.v)) (hok:∀r∈Rs,r.Ok w) (hris:∀r∈Rs,RisE r.l)
  (hRl:Rs.length<=1099511627775) (hT:(Rs.map (fun r=>r.l.length)).sum<=T) (hT2:T<=1099511627776):
  Calls prog 268 #[.slice B Rs.length cb] w (dW 183 3 (bM (Rs.map Rm.l)).length ((bM (Rs.map Rm.l)).flatMap Ent.cells) w):=by
 obtain⟨th0,hI1⟩:=LU Eu
 obtain⟨te0,hI2⟩:=LU gP
 have HI1:=KO hI1
 have HI2:=KO hI2
 clear hI1 hI2
 have hx0:=Blk.new w 322 #[.slice none 0 0,iM]
 obtain⟨W,hW⟩:∃W,w.alloc (.cells #[.slice none 0 0,iM] 322)=W:=⟨_,rfl⟩
 have hbW:Below w.heap.size w W:=by rw[<-hW];exact(KR _ _).alloc (KS _) _
 have hsW:W.heap.size=w.heap.size+1:=by rw[<-hW];simp
 rw[hW]at hx0
 go_enter func268,ntmps268
 go_wp2_with fail
 go_step3
 go_wp2
 try rw[hW]
 go_loopw [12] (fun v wr=>∃(k:Nat) (v1:Value),k<=Rs.length/\v= .int .i64 k/\Below w.heap.size w wr/\W.heap.size<=wr.heap.size/\
   Blk wr w.heap.size 322 #[v1,iM]/\wr.ownsRow W.heap.size 318 2 v1 (bO 0 (Rs.take k)).length ((bO 0 (Rs.take k)).flatMap Hm.cells)/\
   Hid (bO 0 (Rs.take k)=[]->v1= .slice none 0 0)) (fun v _=>Rs.length-(intOf v).toNat)
 case atStart=>exact⟨0,_,K8 _,rfl,hbW,KS _,hx0,Li _ _ _ _,fun _=>rfl⟩
 case round=>
  obtain⟨k,v1,hk,rfl,hb,hsz,hx,hown,hnil⟩:=hrel
  clear hW hx0
  by_cases hlt:k< Rs.length
  ·obtain⟨b1,o1,rfl,hb1l,cp⟩:=hB.oneB hb k hlt
   obtain⟨r,hr⟩:∃r,Rs[k]'hlt=r:=⟨_,rfl⟩
   have hrok:=hok _ (Lh hlt)
   rw[hr]at cp hrok
   have k0:(0:Int)<=(k:Int):=by omega
   have k1:(k:Int)< (Rs.length:Int):=by omega
   have htk:bO 0 (Rs.take (k+1))=bO 0 (Rs.take k)++hd1 k r:=by
    rw[Lc hlt,mh,hr,Nat.zero_add,List.length_take,Nat.min_eq_left (by omega)]
    simp[bO]
   obtain⟨l,A,c⟩:=r
   have HTK:=KO htk
   clear htk hr
   have cp1:wr.cell? ⟨b1,o1+k,none⟩=some (.slice A l.length c):=cp
   clear cp
   cases l with
   |nil=>
    go_wp2_with fail
    go_roundw
    case rel=>
     refine⟨k+1,v1,by omega,by go_num,hb,hsz,hx,?_,?_⟩
     ·rw[HTK.out];simpa[hd1]using hown
     ·rw[HTK.out];simpa[hd1]using hnil
    case measure=>simp[intOf];omega
   |cons e l=>
    have hne:∀q,v1.ownBlock=some q->w.heap.size< q:=fun q hq=>by have:=(hown.lt q hq).1;omega
    have hxl:=hx.lt
    have c0:wr.cell? ⟨w.heap.size,0,none⟩=some v1:=hx.cell 0
    have l0:(0:Int)< ((l.length:Int)+1):=by omega
    obtain⟨n,hn⟩:∃n,n=(bO 0 (Rs.take k)).length:=⟨_,rfl⟩
    have hn2:n<=k:=by rw[hn];have:=mF (Rs.take k) 0;simp at this;omega
    rw[<-hn]at hown
    have HN:=KO hn
    have HNE:=KO hne
    have HX:=KO hx
    have HO:=KO hown
    have HBW:=KO hbW
    have ca:(wr.alloc (.cells #[.slice A (l.length+1) c,.int .i64 (k:Nat)] 318)).cell? ⟨w.heap.size,0,none⟩=some v1:=zN c0 _
    clear hn hne hx hown hbW hnil
    go_wp2_with (at_builtin;refine ag _ rfl (.tmp 24) (.tmp 28) _ rfl W.heap.size 318 th0 _ 2 32 underlying320 HI1.out.1 HI1.out.2.1 HI1.out.2.2.1 HI1.out.2.2.2 rfl (by omega) v1 n _ rfl (HO.out.alloc _) _ 1 _ [.slice A (l.length+1) c,.int .i64 (k:Nat)] rfl (by exact df _ _ _) rfl (by simp[K5]) (by unfold maxLen;omega) (by omega) (by simp;omega) ?_;intro v2 w2 hown2 hg2;have hx2:Blk w2 w.heap.size 322 #[v1,iM]:=(HX.out.alloc _).of (hg2.block _ (by simp;omega) (fun e=>by have:=HNE.out _ e.symm;omega));have e0:w2.cell? ⟨w.heap.size,0,none⟩=some v1:=hx2.cell 0;have e1:=hx2.frozen 0;have HX2:=KO hx2;clear hx2;obtain⟨A2,q2,rfl,hle2,hmx2⟩:=ak hown2;have HO2:=KO hown2;clear hown2)
    go_roundw
    case rel=>
     have hgb:Below w.heap.size w w2:=(hb.alloc (by omega) _).grown hg2 (by simp;omega) (fun q hq=>by have:=HNE.out q hq;omega)
     refine⟨k+1,.slice A2 (n+1) q2,by omega,by go_num,hgb.setCell (p:=⟨w.heap.size,0,none⟩) (KS _) _,by have:=hg2.size;simp at this;simp[World.setCell];omega,HX2.out.set_ 0 _,?_,?_⟩
     ·rw[HTK.out,List.length_append,L9,<-HN.out]
      refine fe (by simpa[hd1,Hm.cells]using HO2.out) ?_ _
      intro e
      have:=(HO2.out.lt _ e).1
      dsimp only at this
      omega
     ·show _->_
      intro h
      rw[HTK.out]at h
      simp[hd1]at h
    case measure=>simp[intOf];omega
  ·have hkn:k=Rs.length:=by omega
   subst hkn
   rw[KZ (KS _)]at hown hnil
   obtain⟨Hs,hHs⟩:∃Hs,bO 0 Rs=Hs:=⟨_,rfl⟩
   rw[hHs]at hown hnil
   have hI0:MInv (Rs.map Rm.l) [] (Hs.map Hm.h):=by rw[<-hHs,su];exact MInv.start _
   have hHok:∀m∈Hs,m.Ok w:=by rw[<-hHs];exact uI hok
   have hHsum:(Hs.map Hm.n).sum<=T:=by rw[<-hHs,qU];exact hT
   have hHlen:Hs.length<=1099511627776:=by rw[<-hHs];have:=mF Rs 0;omega
   have hR:∀r∈Rs.map Rm.l,RisE r:=by intro r hr;obtain⟨q,hq,rfl⟩:=List.mem_map.1 hr;exact hris q hq
   have HI0:=KO hI0
   have HOK:=KO hHok
   have HR:=KO hR
   have HXX:=KO hx
   have hxl:=hx.lt
   have hbs:=KO hb
   clear hI0 hHok hR hok hris hT hB hHs hbW hx hb
   cases Hs with
   |nil=>
    obtain rfl:=hnil.out rfl
    have hall:bM (Rs.map Rm.l)=[]:=(HI0.out.done HR.out).symm
    have c0:wr.cell? ⟨w.heap.size,0,none⟩=some (.slice none 0 0):=HXX.out.cell 0
    have HALL:=KO hall
    clear hall hown hHsum hHlen
    go_wp2_with fail
    refine(Aa wr w.heap.size _ HXX.out).mono ?_
    rintro e w1 ⟨⟨v,rfl⟩,rfl⟩
    go_wp2
    go_step3
    go_wp2
    go_loopw [2] (fun v wr2=>v= .slice none 0 0/\wr2=w1) (fun _ _=>0)
    case atStart=>exact⟨rfl,rfl⟩
    case round=>
     obtain⟨rfl,rfl⟩:=hrel
     go_wp2
     go_ret
     exact⟨none,0,by rw[HALL.out];rfl,by rw[HALL.out];exact Li _ _ _ _,hbs.out⟩
   |cons m0 Hs0=>
    obtain⟨g,cap,cur,rfl,hgB,hgblk,hncap,hcapm,hcurs,hcurt⟩:=IK hown (by simp)
    have hHA:HeadsAt wr g (m0::Hs0):=⟨cur,hgblk,hcurt,by rw[hcurs];exact Nat.mul_le_mul_right _ hncap⟩
    have hpg:w.heap.size≠g:=by omega
    clear hgblk hcurs hcurt hown
    go_wp2_with fail
    refine(Aq w wr w.heap.size g cap _ (m0::Hs0) rfl hHlen HXX.out hHA hpg HOK.out hbs.out (by omega) (KS _)).mono ?_
    rintro e w1 ⟨⟨v,rfl⟩,Hs1,hp1,hh1,hH1,hm1⟩
    have hgl:=hH1.lt
    have hb1:Below w.heap.size w w1:=hbs.out.trans (hm1.below hbs.out.size (by intro k h;omega))
    have hl1:=hp1.length_eq
    have hK:Kst w w.heap.size g cap w1.heap.size T (Rs.map Rm.l) [] Hs1 none 0 w1:=
     ⟨⟨Li _ _ _ _,by rw[hl1];exact HXX.out.mod hm1 (by omega),hH1,hb1,KS _⟩,hh1,HI0.out.perm (hp1.map Hm.h),fun m hm=>HOK.out m (hp1.mem_iff.1 hm),by
      rw[(hp1.map Hm.n).sum_nat];simpa using hHsum,by omega,by omega⟩
    have hpl:w.heap.size< w1.heap.size:=Nat.lt_of_lt_of_le hxl hm1.size
    clear hp1 hh1 hH1 hm1 hHA HI0 HOK HXX hHsum hHlen hl1 hnil
    go_wp2
    go_step3
    go_wp2
    go_loopw [2] (fun v wr2=>∃(out:List Ent) (Hs:List Hm) (A':Option Addr) (c':Nat),v= .slice A' out.length c'/\Hid (Kst w w.heap.size g cap w1.heap.size T (Rs.map Rm.l) out Hs A' c' wr2)) (fun _ wr2=>JU wr2 w.heap.size)
    case atStart=>exact⟨[],Hs1,none,0,rfl,hK⟩
    case round=>
     clear hK
     obtain⟨out,Hs,A',c',rfl,hK⟩:=hrel
     have c0:wr.cell? ⟨w.heap.size,0,none⟩=some (.slice (some ⟨g,0,none⟩) Hs.length cap):=hK.out.mid.pile.cell 0
     cases Hs with
     |nil=>
      have hd:=hK.out.inv.done HR.out
      go_wp2
      go_ret
      have ho:=av (B':=w.heap.size) hK.out.mid.own (by omega)
      rw[hd]at ho
      exact⟨A',c',by rw[hd];rfl,ho,hK.out.mid.frame⟩
     |cons m Hs=>
      obtain⟨a1,a2⟩:=hK.out.mid.heads.cells 0 (by simp)
      have okm:=hK.out.ok m (by simp)
      obtain⟨⟨e,rest,age⟩,A,n,c⟩:=m
      obtain⟨b,off,hA,hbl,ek,ev,ed⟩:=okm.at0 hK.out.mid.frame
      have hnr:n=rest.length+1:=okm.n
      have hnc:n<=c:=okm.nc
      dsimp only at hA ek ev ed
      subst hA
      rw[Nat.zero_mul]at a1 a2
      have a1':wr.cell? ⟨g,0,none⟩=some (.slice (some ⟨b,off,none⟩) n c):=a1
      have c0':wr.cell? ⟨w.heap.size,0,none⟩=some (.slice (some ⟨g,0,none⟩) (Hs.length+1) cap):=c0
      have n0:(0:Int)< (Hs.length:Int)+1:=by omega
      have n1:(0:Int)< (n:Int):=by omega
      have hgl2:g< wr.heap.size:=hK.out.mid.heads.lt
      have HOKM:=KO okm
      clear a1 a2 c0 okm
      go_upto_region 12 with fail
      go_cut [65]from 48 to 65 (fun v wx=>v= .bool (fresh out e.key)/\Below wr.heap.size wr wx)
      case first=>
       rcases List.eq_nil_or_concat out with hnil2|⟨l',z,hz⟩
       ·subst hnil2
        go_quiet (fail)
        go_wp2_with fail
        go_meet
        exact⟨by simp[fresh],ay (KR _ _) _⟩
       ·rw[List.concat_eq_append]at hz
        have hj2:out.length=l'.length+1:=by rw[hz];simp
        have hol:out.length<=1099511627776:=by have:=hK.out.tot;omega
        obtain⟨j,hj⟩:∃j,j=l'.length:=⟨_,rfl⟩
        have hjo:j< out.length:=by omega
        have hg:out[j]'hjo=z:=by subst hj;subst hz;simp
        obtain⟨b2,off2,hA2,hb2l,z1,z2,z3⟩:=(aA hK.out.mid.own).ent j hjo
        rw[hg]at z1
        subst hA2
        have hF:Hid (fresh out e.key=(z.key !=e.key)):=by
         show _=_
         rw[hz]
         unfold fresh
         rw[List.getLast?_append]
         rfl
        have o0:((out.length:Int)==0)=false:=beq_eq_false_iff_ne.2 (by omega)
        have o1:IntKind.i64.wrap ((out.length:Int)-1)=(j:Int):=by
         rw[show(out.length:Int)-1=(j:Int)by omega];exact IntWalk.i64_in _ (by omega)
        have o2:(0:Int)<=(j:Int):=by omega
        have o3:(j:Int)< (out.length:Int):=by omega
        have HZ:=KO hz
        clear hz hg hj2 hj z2 z3
        go_quiet (fail)
        go_wp2_with fail
        go_meet
        exact⟨by simp[hF.out],ay (KR _ _) _⟩
      case rest=>
       obtain⟨rfl,hbx⟩:=hcut
       have hmid:Kmid w w.heap.size g cap w1.heap.size out (⟨⟨e,rest,age⟩,some ⟨b,off,none⟩,n,c⟩::Hs) A' c' wc:=
        ⟨own_below hK.out.mid.own hbx,hK.out.mid.pile.below hbx hK.out.mid.pile.lt,hK.out.mid.heads.below hbx hgl2,aa hK.out.mid.frame hbx,KY hK.out.mid.size hbx.size⟩
       have HMID:=KO hmid
       obtain⟨F,hF⟩:∃F,fresh out e.key=F:=⟨_,rfl⟩
       rw[hF]
       have HF:=KO hF
       clear hmid hF a1' c0' ek ev ed hbx
       go_upto_if 65 with fail
       go_cut [2]from 66 to 74 (fun v wx=>∃A2 q2,v= .slice A2 (eF out e).length q2/\Hid (Kmid w w.heap.size g cap w1.heap.size (eF out e) (⟨⟨e,rest,age⟩,some ⟨b,off,none⟩,n,c⟩::Hs) A2 q2 wx))
       case first=>
        cases F
        ·go_wp2_with fail
         go_meet
         have ho:eF out e=out:=by unfold eF;rw[HF.out];rfl
         rw[ho]
         exact⟨A',c',by simp,HMID.out⟩
        ·have ho:eF out e=out++[e]:=by unfold eF;rw[HF.out];rfl
         have HO:=KO ho
         have hl2:(eF out e).length=out.length+1:=by rw[ho];simp
         have HL2:=KO hl2
         clear ho hl2
         have hol:out.length<=T:=by have:=hK.out.tot;omega
         have hol2:out.length+n<=T:=by have:=hK.out.tot;simp at this;omega
         have d0:wc.cell? ⟨g,0,none⟩=some (.slice (some ⟨b,off,none⟩) n c):=(HMID.out.heads.cells 0 (by simp)).1
         obtain⟨b9,off9,hA9,hbl9,d1,d2,d3⟩:=HOKM.out.at0 HMID.out.frame
         obtain⟨rfl,rfl⟩:b=b9/\off=off9:=by simpa using hA9
         have hsw:=HMID.out.size
         have bP:=HMID.out.pile
         have bH:=HMID.out.heads
         have hgl3:=bH.lt
         have BP:=KO bP
         have n63:out.length<=1099511627776:=by omega
         clear bP bH hbl9
         go_wp2_with (at_builtin;refine ag _ rfl (.tmp 66) (.tmp 73) _ rfl w1.heap.size 183 te0 _ 3 24 underlying143 HI2.out.1 HI2.out.2.1 HI2.out.2.2.1 HI2.out.2.2.2 rfl (by omega) (.slice A' out.length c') out.length _ rfl (HMID.out.own.alloc _) _ 1 _ [.int .i64 e.key,.int .i64 e.val,.bool e.dead] rfl (by exact df _ _ _) rfl (by simp[K5]) (by unfold maxLen;omega) (by omega) (by simp;omega) ?_;intro v2 w2 hown2 hg2;obtain⟨A2,q2,rfl,hle2,hmx2⟩:=ak hown2;have HO2:=KO hown2;clear hown2)
         go_meet
         have hne:∀q,q< w1.heap.size->some q≠(Value.slice A' out.length c').ownBlock:=fun q hq e=>by have:=(HMID.out.own.lt q e.symm).1;omega
         refine⟨A2,q2,by rw[HL2.out],?_⟩
         refine⟨by rw[HL2.out,HO.out,L9];simpa[Ent.cells]using HO2.out,(BP.out.alloc _).of (hg2.block _ (by simp;omega) (hne _ hpl)),?_,(HMID.out.frame.alloc (by omega) _).grown hg2 (by simp;omega) (fun q hq=>by have:=(HMID.out.own.lt q hq).1;omega),by have:=hg2.size;simp at this;omega⟩
         obtain⟨cur,hc1,hc2⟩:=HMID.out.heads
         exact⟨cur,(hc1.alloc _).of (hg2.block _ (by simp;omega) (hne _ hgl)),hc2⟩
       case rest=>
        obtain⟨A2,q2,rfl,hK2⟩:=hcut
        have d0:wc.cell? ⟨g,0,none⟩=some (.slice (some ⟨b,off,none⟩) n c):=(hK2.out.heads.cells 0 (by simp)).1
        have d1:wc.frozen? ⟨g,0,none⟩=false:=hK2.out.heads.frozen 0
        have n2:(1:Int)<=(n:Int):=by omega
        cases rest with
        |nil=>
         obtain rfl:n=1:=by simpa using hnr
         clear hnr
         by_cases hc1:c=1
         ·subst hc1
          go_upto_region 16 with fail
          obtain⟨W2,hW2⟩:∃W2,wc.setCell ⟨g,0,none⟩ (.slice (some ⟨b,off,none⟩) 0 (0))=W2:=⟨_,rfl⟩
          obtain⟨q1,q2',q3,q4,q5,q6⟩:=BU (m:=⟨⟨e,[],age⟩,some ⟨b,off,none⟩,1,1⟩) (m':=⟨⟨e,[],age⟩,some ⟨b,off,none⟩,0,0⟩) HR.out hK.out rfl hK2.out hpg hpl hgl (by omega) (KS _) rfl hW2
          rw[hW2]
          have Q1:=KO q1
          have Q2:=KO q2'
          have Q6:=KO q6
          have hlx:=hK.out.hl
          have hcx:=hK.out.hc
          simp at hlx hcx
          clear q1 q2' q6 d0 d1 hW2
          go_wp2_with fail
          refine(CE w W2 w.heap.size g cap Hs.length (⟨⟨e,[],age⟩,some ⟨b,off,none⟩,0,0⟩::Hs) (by simp) (by omega) hcx Q1.out Q2.out hpg q3 q4 (by omega) (KS _) q5).mono ?_
          rintro ee w4 hpp
          obtain⟨⟨v4,rfl⟩,Hs',hK3,hlt3⟩:=Q6.out ee w4 hpp
          have HK3:=KO hK3
          clear q3 q4 q5 hpp hK3
          go_wp2_with fail
          refine⟨⟨_,Hs',A2,q2,rfl,HK3.out⟩,?_⟩
          rw[uC HK3.out.mid.pile HK3.out.mid.heads,uC hK.out.mid.pile hK.out.mid.heads]
          exact hlt3
         ·have hcb:(c==1)=false:=by simpa using hc1
          go_upto_region 16 with fail
          obtain⟨W2,hW2⟩:∃W2,wc.setCell ⟨g,0,none⟩ (.slice (some ⟨b,off+3,none⟩) 0 (c-1))=W2:=⟨_,rfl⟩
          obtain⟨q1,q2',q3,q4,q5,q6⟩:=BU (m:=⟨⟨e,[],age⟩,some ⟨b,off,none⟩,1,c⟩) (m':=⟨⟨e,[],age⟩,some ⟨b,off+3,none⟩,0,c-1⟩) HR.out hK.out rfl hK2.out hpg hpl hgl (by omega) (KS _) rfl hW2
          rw[hW2]
          have Q1:=KO q1
          have Q2:=KO q2'
          have Q6:=KO q6
          have hlx:=hK.out.hl
          have hcx:=hK.out.hc
          simp at hlx hcx
          clear q1 q2' q6 d0 d1 hW2
          go_wp2_with fail
          refine(CE w W2 w.heap.size g cap Hs.length (⟨⟨e,[],age⟩,some ⟨b,off+3,none⟩,0,c-1⟩::Hs) (by simp) (by omega) hcx Q1.out Q2.out hpg q3 q4 (by omega) (KS _) q5).mono ?_
          rintro ee w4 hpp
          obtain⟨⟨v4,rfl⟩,Hs',hK3,hlt3⟩:=Q6.out ee w4 hpp
          have HK3:=KO hK3
          clear q3 q4 q5 hpp hK3
          go_wp2_with fail
          refine⟨⟨_,Hs',A2,q2,rfl,HK3.out⟩,?_⟩
          rw[uC HK3.out.mid.pile HK3.out.mid.heads,uC hK.out.mid.pile hK.out.mid.heads]
          exact hlt3
        |cons e2 l2=>
         obtain⟨n',rfl⟩:∃n',n=n'+1:=⟨n-1,by omega⟩
         obtain⟨c1,rfl⟩:∃c1,c=c1+1:=⟨c-1,by omega⟩
         have hc1:¬c1+1=1:=by simp at hnr;omega
         go_upto_region 17 with fail
         have hn':n'=l2.length+1:=by simp at hnr;omega
         subst hn'
         obtain⟨W2,hW2⟩:∃W2,wc.setCell ⟨g,0,none⟩ (.slice (some ⟨b,off+3,none⟩) (l2.length+1) c1)=W2:=⟨_,rfl⟩
         have hmok:Hm.Ok w ⟨⟨e2,l2,age⟩,some ⟨b,off+3,none⟩,l2.length+1,c1⟩:=by
          have h1:=HOKM.out
          refine⟨?_,rfl,by have:=h1.nc;simp at this ⊢;omega,by have:=h1.c;simp at this ⊢;omega⟩
          rcases h1.sl with h2|⟨b3,o3,h3,h4,h5⟩
          ·simp[Ent.cells]at h2
          ·obtain⟨rfl,rfl⟩:b=b3/\off=o3:=by simpa using h3
           refine .inr ⟨b,off+3,rfl,h4,fun j u hu=>?_⟩
           have:=h5 (3+j) u (by rw[List.flatMap_cons,Ma (by simp[Ent.cells])];simpa[Ent.cells]using hu)
           rw[show off+3+j=off+(3+j)by omega];exact this
         obtain⟨q1,q2',q3,q4,q5,q6⟩:=Gw (m:=⟨⟨e,e2::l2,age⟩,some ⟨b,off,none⟩,l2.length+1+1,c1+1⟩) (m':=⟨⟨e2,l2,age⟩,some ⟨b,off+3,none⟩,l2.length+1,c1⟩) HR.out hK.out rfl hK2.out hpg hpl hgl (by omega) (KS _) rfl hmok rfl hW2
         rw[hW2]
         have Q1:=KO q1
         have Q2:=KO q2'
         have Q6:=KO q6
         have hlx:=hK.out.hl
         simp at hlx
         clear q1 q2' q6 d0 d1 hW2 hmok
         go_wp2_with fail
         refine(ry w W2 w.heap.size g cap (Hs.length+1) 0 0 (⟨⟨e2,l2,age⟩,some ⟨b,off+3,none⟩,l2.length+1,c1⟩::Hs) (by simp) (by omega) (K8 _) (KS _) Q1.out Q2.out hpg q3 q4 (by omega) (KS _) q5).mono ?_
         rintro ee w4 hpp
         obtain⟨⟨v4,rfl⟩,Hs',hK3,hlt3⟩:=Q6.out ee w4 hpp
         have HK3:=KO hK3
         clear q3 q4 q5 hpp hK3
         go_wp2_with fail
         refine⟨⟨_,Hs',A2,q2,rfl,HK3.out⟩,?_⟩
         rw[uC HK3.out.mid.pile HK3.out.mid.heads,uC hK.out.mid.pile hK.out.mid.heads]
         exact hlt3
end
def dx (l:List Ent):List Ent:=(ai l.length 0).map (uK l)
theorem aG (l:List Ent):(dx l).length=l.length:=by simp[dx,az]
theorem vZ {l:List Ent} {k:Nat} (h:k< (dx l).length):(dx l)[k]'h=uK l ((ai l.length 0)[k]'(by simpa[dx]using h)):=by simp[dx]
def Scat (l:List Ent) (k:Nat) (cur:Array Value):Prop:=∀a,a< k->∀(ha:a< l.length) (j:Nat),j< 3->cur[(ai l.length 0).idxOf a*3+j]?=((l[a]'ha).cells)[j]?
theorem Scat.start (l:List Ent) (cur:Array Value):Scat l 0 cur:=fun a h=>absurd h (by omega)
theorem Scat.step {l:List Ent} {k:Nat} {cur:Array Value} (h:Scat l k cur) (hk:k< l.length) (hs:cur.size=l.length*3) (r:Nat) (hr:r=(ai l.length 0).idxOf k):
  Scat l (k+1) (((cur.setIfInBounds (r*3) (.int .i64 (l[k]'hk).key)).setIfInBounds (r*3+1) (.int .i64 (l[k]'hk).val)).setIfInBounds (r*3+2) (.bool (l[k]'hk).dead)):=by
 subst hr
 have hrl:=iO hk
 intro a ha hal j hj
 by_cases e:a=k
 ·subst e
  have:j=0∨j=1∨j=2:=by omega
  rcases this with rfl|rfl|rfl
  ·rw[Array.getElem?_setIfInBounds_ne (by omega),Array.getElem?_setIfInBounds_ne (by omega),Nat.add_zero,Array.getElem?_setIfInBounds_self_of_lt (by omega)];rfl
  ·rw[Array.getElem?_setIfInBounds_ne (by omega),Array.getElem?_setIfInBounds_self_of_lt (by simp;omega)];rfl
  ·rw[Array.getElem?_setIfInBounds_self_of_lt (by simp;omega)];rfl
 ·have hne:(ai l.length 0).idxOf a≠(ai l.length 0).idxOf k:=by
   intro e2
   have h1:=oH hal
   have h2:=oH hk
   simp only[e2]at h1
   exact e (h1.symm.trans h2)
  rw[Array.getElem?_setIfInBounds_ne (by omega),Array.getElem?_setIfInBounds_ne (by omega),Array.getElem?_setIfInBounds_ne (by omega)]
  exact h a (by omega) hal j hj
theorem Scat.done {l:List Ent} {cur:Array Value} (h:Scat l l.length cur) (hs:cur.size=l.length*3):cur.toList.take (l.length*3)=(dx l).flatMap Ent.cells:=by
 rw[KZ (by simp;omega)]
 refine Ni fun i=>?_
 by_cases hi:i< l.length*3
 ·have hk:i/3< l.length:=by omega
  have hk':i/3< (ai l.length 0).length:=by rw[az];exact hk
  have e:i/3*3+i %3=i:=by omega
  have hf:=flat_get Ent.cells 3 Ent.cells_length (dx l) (i/3) (i %3) (by rw[aG];exact hk) (by omega)
  rw[e,vZ]at hf
  have hp:=eU (Lh hk')
  rw[fD hp]at hf
  have hc:=h _ hp hp (i %3) (by omega)
  rw[iA hk',e]at hc
  rw[hf,<-hc]
  simp
 ·rw[Mg (by simp;omega),Mg (by rw[aQ Ent.cells 3 Ent.cells_length,aG];omega)]
theorem uB (A:Option Addr) (l:List Ent) (c:Nat) (w:World) (hA:Sl w A (l.flatMap Ent.cells)) (hn:l.length<=65536):
  Calls prog 145 #[.agg #[.slice A l.length c]] w (dW 183 3 l.length ((dx l).flatMap Ent.cells) w):=by
 obtain⟨i0,hi,hz0,hz1,hz2⟩:=LU gP
 have hb0:Below w.heap.size w (w.alloc (.cells #[.slice A l.length c] 145)):=(KR _ _).alloc (KS _) _
 have hx0:Blk (w.alloc (.cells #[.slice A l.length c] 145)) w.heap.size 145 #[.slice A l.length c]:=Blk.new _ _ _
 go_enter func145,ntmps145
 go_wp2_with fail
 refine(ui l.length l.length 0 _ _ _ rfl rfl hn (by omega) (by omega)).mono ?_
 rintro e w1 ⟨A1,c1,rfl,hown1,hb1⟩
 have hlen:=KO (az l.length)
 have hb01:Below w.heap.size w w1:=aa hb0 hb1
 have hx1:Blk w1 w.heap.size 145 #[.slice A l.length c]:=hx0.below hb1 (by simp)
 have hsl:=aA hown1
 have hs1:w.heap.size< w1.heap.size:=hx1.lt
 have hbase:=kU hown1
 clear hown1 hb1
 go_wp2
 go_loopw [3,5] (fun v i wr=>∃k:Nat,k<=l.length/\i= .int .i64 k/\Mod (fun b=>w1.heap.size<=b) w1 wr/\∃A' c',v= .slice A' k c'/\
   wr.ownsRow w1.heap.size 183 3 (.slice A' k c') k (((dx l).take k).flatMap Ent.cells)) (fun _ i _=>l.length-(intOf i).toNat)
 case atStart=>exact⟨0,K8 _,rfl,Mod.refl _ _,none,0,rfl,Li _ _ _ _⟩
 case round=>
  obtain⟨k,hk,rfl,hm,A',c',rfl,hown⟩:=hrel
  have hbm:Below w1.heap.size w1 wr:=hm.below (KS _) (fun _ h=>h)
  have hb:Below w.heap.size w wr:=aa hb01 hbm
  by_cases hlt:k< l.length
  ·have hlt':k< (ai l.length 0).length:=by rw[hlen.out];exact hlt
   obtain⟨b1,o1,rfl,hb1l,cp⟩:=hsl.oneB hbm k hlt'
   obtain⟨x,hx⟩:∃x,(ai l.length 0)[k]'hlt'=x:=⟨_,rfl⟩
   have hxn:x< l.length:=hx ▸ eU (Lh hlt')
   rw[hx]at cp
   have cp':wr.cell? ⟨b1,o1+k,none⟩=some (.int .i64 (x:Nat)):=cp
   obtain⟨b,off,rfl,hbl,q1,q2,q3⟩:=hA.entB hb x hxn
   have cx:wr.cell? ⟨w.heap.size,0,none⟩=some (.slice (some ⟨b,off,none⟩) l.length c):=(hx1.below hbm hs1).cell 0
   have hki:(0:Int)<=(k:Int):=by omega
   have hki2:(k:Int)< ((ai l.length 0).length:Int):=by omega
   have hxi:(0:Int)<=(x:Int):=by omega
   have hxi2:(x:Int)< (l.length:Int):=by omega
   have HX:=KO hx
   have hsz:=hm.size
   clear cp hx hbl hb1l hsl hx0 hb0
   go_wp2_with fail
   go_region_law (
    (refine dS _ (by rfl) _ _ _ (by rfl) w1.heap.size 183 i0 _ 3 24 underlying143 hi hz0 hz1 hz2 rfl (by omega) (.slice A' k c') k _ (by rfl) ((hown.alloc _).drew) _ 1 _ (l[x]'hxn).cells (by rfl) ((Blk.new wr _ _).sl 0 _ (by intro j u hu;simpa[Ent.cells]using hu)) (by rfl) (by simp[Ent.cells,K5]) (by unfold maxLen;omega) (by omega) (by simp;omega) ?_;intro v2 w2 hown2 hg2;obtain⟨A2,z2,rfl,hle2,hmx2⟩:=ak hown2))
   all_goals
    go_wp2
    have hm2:Mod (fun b=>w1.heap.size<=b) w1 w2:=((hm.alloc _).drew).grown hg2 (fun k hk=> .inl (hown.lt k hk).1)
    have hlk:(dx l)[k]'(by rw[aG];exact hlt)=l[x]'hxn:=by rw[vZ];simp[HX.out,fD hxn]
    have hlt2:k< (dx l).length:=by rw[aG];exact hlt
    go_roundw
    case rel=>
     refine⟨k+1,by omega,by go_num,hm2,A2,z2,rfl,?_⟩
     rw[Lc hlt2,L9,hlk]
     simpa using hown2
    case measure=>simp[intOf];omega
  ·have hkn:=KO (show k=l.length by omega)
   have hge:(ai l.length 0).length<=k:=by rw[hlen.out];omega
   go_wp2
   go_ret
   have h:=av (B':=w.heap.size) hown (by omega)
   rw[hkn.out,KZ (by rw[aG];omega)]at h
   exact⟨A',c',by rw[hkn.out];rfl,h,hb⟩
theorem rE (A:Option Addr) (l:List Ent) (c:Nat) (w:World) (hA:Sl w A (l.flatMap Ent.cells)) (hn:l.length<=65536):
  Calls prog 275 #[.agg #[.slice A l.length c]] w (dW 183 3 l.length ((dx l).flatMap Ent.cells) w):=by
 obtain⟨i0,hi,hz0,hz1,hz2⟩:=LU gP
 have hmk:=fun W=>aW (P:=prog) 143 183 i0 _ underlying143 hi hz0 l.length (by rw[hz2];omega) (by omega) W
 rw[hz1]at hmk
 clear hi hz0 hz1 hz2
 obtain⟨W0,hW0⟩:∃W0,(w.alloc (.cells #[.slice A l.length c] 314)).alloc (.cells (madeCells #[.int .i64 0,.int .i64 0,.bool false] (l.length*3)) 183)=W0:=⟨_,rfl⟩
 have hb0:Below w.heap.size w W0:=by rw[<-hW0];exact((KR _ _).alloc (KS _) _).alloc (by simp) _
 have hx0:Blk W0 w.heap.size 314 #[.slice A l.length c]:=by rw[<-hW0];exact(Blk.new w _ _).alloc _
 have hg0:Blk W0 (w.heap.size+1) 183 (madeCells #[.int .i64 0,.int .i64 0,.bool false] (l.length*3)):=by
  rw[<-hW0];have:=Blk.new (w.alloc (.cells #[.slice A l.length c] 314)) 183 (madeCells #[.int .i64 0,.int .i64 0,.bool false] (l.length*3))
  rwa [KX]at this
 have hs0:W0.heap.size=w.heap.size+1+1:=by rw[<-hW0];simp
 have cx0:W0.cell? ⟨w.heap.size,0,none⟩=some (.slice A l.length c):=hx0.cell 0
 go_enter func275,ntmps275
 go_wp2_with fail
 try rw[hW0]
 refine(xm l.length hn _).mono ?_
 rintro e w3 ⟨rfl,ho3,hb3⟩
 rw[hs0]at ho3
 have hb03:Below w.heap.size w w3:=aa hb0 hb3
 have hx3:=hx0.below hb3 hx0.lt
 have hg3:=hg0.below hb3 hg0.lt
 have hgl:=hg3.lt
 have hol:=ho3.lt
 clear hmk hW0 hb3 hb0 hx0 hg0 cx0
 rw[hs0]
 go_wp2
 go_loopw [21] (fun i wr=>∃k:Nat,k<=l.length/\i= .int .i64 k/\Mod (fun b=>b=w.heap.size+1) w3 wr/\
   ∃cur:Array Value,Hid (cur.size=l.length*3)/\Blk wr (w.heap.size+1) 183 cur/\Hid (Scat l k cur))
   (fun i _=>l.length-(intOf i).toNat)
 case atStart=>exact⟨0,K8 _,rfl,Mod.refl _ _,_,by show _=_;simp[madeCells],hg3,Scat.start _ _⟩
 case round=>
  obtain⟨k,hk,rfl,hm,cur,hcs,hcur,hct⟩:=hrel
  by_cases hlt:k< l.length
  ·have hb:Below w.heap.size w wr:=hb03.trans (hm.below hb03.size (by intro k h;omega))
   have hrl:k< (ranks l.length).length:=by rw[eu];exact hlt
   obtain⟨x,hx⟩:∃x,(ranks l.length)[k]'hrl=x:=⟨_,rfl⟩
   have hxi:x=(ai l.length 0).idxOf k:=by rw[<-hx,lC hlt]
   have hxn:x< l.length:=by rw[hxi];exact iO hlt
   have ho4:=ho3.mod hm (by omega)
   have cr:wr.cell? ⟨w.heap.size+1+1,k,none⟩=some (.int .i64 (x:Nat)):=by
    rw[ho4.cell];simp[hrl,hx]
   have cx:wr.cell? ⟨w.heap.size,0,none⟩=some (.slice A l.length c):=(hx3.mod hm (by omega)).cell 0
   obtain⟨b,off,rfl,hbl,c1,c2,c3⟩:=hA.entB hb k hlt
   have hsz:=hcs.out
   obtain⟨v1,e1⟩:∃v,wr.cell? ⟨w.heap.size+1,x*3,none⟩=some v:=⟨_,(hcur.cell _).trans (Array.getElem?_eq_getElem (show x*3< cur.size by omega))⟩
   obtain⟨v2,e2⟩:∃v,wr.cell? ⟨w.heap.size+1,x*3+1,none⟩=some v:=⟨_,(hcur.cell _).trans (Array.getElem?_eq_getElem (show x*3+1< cur.size by omega))⟩
   obtain⟨v3,e3⟩:∃v,wr.cell? ⟨w.heap.size+1,x*3+2,none⟩=some v:=⟨_,(hcur.cell _).trans (Array.getElem?_eq_getElem (show x*3+2< cur.size by omega))⟩
   have f1:=hcur.frozen (x*3)
   have f2:=hcur.frozen (x*3+1)
   have f3:=hcur.frozen (x*3+2)
   have hxi1:(0:Int)<=(x:Int):=by omega
   have hxi2:(x:Int)< (l.length:Int):=by omega
   have hki:(0:Int)<=(k:Int):=by omega
   have hki2:(k:Int)< (l.length:Int):=by omega
   have hst:=KO (hct.out.step hlt hcs.out x hxi)
   clear hx hsz hxi hx3
   go_wp2
   go_roundw
   case rel=>
    exact⟨k+1,by omega,by go_num,((hm.setCell (p:=⟨w.heap.size+1,x*3,none⟩) rfl _).setCell (p:=⟨w.heap.size+1,x*3+1,none⟩) rfl _).setCell (p:=⟨w.heap.size+1,x*3+2,none⟩) rfl _,_,by show _=_;simpa using hcs.out,((hcur.set_ (x*3) _).set_ (x*3+1) _).set_ (x*3+2) _,hst⟩
   case measure=>simp[intOf];omega
  ·have hkn:k=l.length:=by omega
   have hb:Below w.heap.size w wr:=hb03.trans (hm.below hb03.size (by intro k h;omega))
   have hct':=Scat.done (hkn ▸ hct.out) hcs.out
   have HC:=KO hct'
   clear hct' hkn
   go_wp2
   go_ret
   exact⟨some ⟨w.heap.size+1,0,none⟩,l.length,rfl,⟨by rw[aQ Ent.cells 3 Ent.cells_length,aG],.inr ⟨w.heap.size+1,l.length,cur,rfl,by omega,hcur,KS _,by unfold maxLen;omega,hcs.out,HC.out⟩⟩,hb⟩
def bJ (l:List Ent):Int:=if bV l≠0 then bV l else je (dx l)
theorem qN {l:List Ent} (h:bV l=0):l.length<=65536:=by
 unfold bV at h
 split at h
 ·cases h
 ·omega
theorem kK {l:List Ent} (h:bJ l=0):bV l=0/\rises ((dx l).map Ent.key)=true/\l.length<=65536:=by
 unfold bJ at h
 split at h
 ·exact absurd h (by assumption)
 ·rename_i hf
  have hf:bV l=0:=by omega
  refine⟨hf,?_,qN hf⟩
  unfold je at h
  split at h
  ·assumption
  ·cases h
theorem jI (A:Option Addr) (l:List Ent) (c:Nat) (w:World) (hA:Sl w A (l.flatMap Ent.cells)) (hl:l.length<=4611686018427387903):
  Calls prog 273 #[.agg #[.slice A l.length c]] w fun r w'=>r= .returned (.int .i64 (bJ l))/\Below w.heap.size w w':=by
 have hb0:Below w.heap.size w (w.alloc (.cells #[.slice A l.length c] 145)):=(KR _ _).alloc (KS _) _
 have bX:=Blk.new w 145 #[.slice A l.length c]
 obtain⟨E,hE⟩:∃E,bV l=E:=⟨_,rfl⟩
 by_cases h0:E=0
 ·subst h0
  have hl2:=qN hE
  have hc:bJ l=je (dx l):=by unfold bJ;rw[if_neg (by omega)]
  rw[hc]
  have HE:=KO hE
  have HL:=KO (aG l)
  clear hE hc
  go_enter func273,ntmps273
  go_wp2_with fail
  refine(kC A l c _ (hA.below hb0) hl).mono ?_
  rw[HE.out]
  rintro e w1 ⟨rfl,hb1⟩
  have hb01:=aa hb0 hb1
  have c0:w1.cell? ⟨w.heap.size,0,none⟩=some (.slice A l.length c):=(bX.below hb1 bX.lt).cell 0
  clear bX hb1
  go_wp2_with fail
  refine(rE A l c _ (hA.below hb01) hl2).mono ?_
  rintro e w2 ⟨A2,c2,rfl,ho2,hb2⟩
  have hb02:=aa hb01 hb2
  have hs2:=KO (aA ho2)
  clear ho2 c0
  go_wp2_with fail
  rw[<-HL.out]
  refine(mH A2 (dx l) c2 _ hs2.out (by rw[HL.out];omega)).mono ?_
  rintro e w3 ⟨rfl,hb3⟩
  go_wp2
  go_ret
  exact⟨rfl,aa hb02 hb3⟩
 ·have hc:bJ l=E:=by unfold bJ;rw[hE,if_pos h0]
  rw[hc]
  have HE:=KO hE
  clear hE hc
  go_enter func273,ntmps273
  go_wp2_with fail
  refine(kC A l c _ (hA.below hb0) hl).mono ?_
  rw[HE.out]
  rintro e w1 ⟨rfl,hb1⟩
  go_wp2
  go_ret
  exact⟨rfl,aa hb0 hb1⟩
def DK (m:List Ent) (e:Int) (w:World) (r:Ending) (w':World):Prop:=
 ∃A c,r= .returned (.tuple #[.slice A m.length c,.int .i64 e])/\w'.ownsRow w.heap.size 183 3 (.slice A m.length c) m.length (m.flatMap Ent.cells)/\Below w.heap.size w w'
def nO (l:List Ent):List Ent:=if bJ l=0 then dx l else[]
theorem qi (A:Option Addr) (l:List Ent) (c:Nat) (w:World) (hA:Sl w A (l.flatMap Ent.cells)) (hl:l.length<=4611686018427387903):
  Calls prog 267 #[.agg #[.slice A l.length c]] w (DK (nO l) (bJ l) w):=by
 have hb0:Below w.heap.size w (w.alloc (.cells #[.slice A l.length c] 145)):=(KR _ _).alloc (KS _) _
 have bX:=Blk.new w 145 #[.slice A l.length c]
 obtain⟨E,hE⟩:∃E,bJ l=E:=⟨_,rfl⟩
 by_cases h0:E=0
 ·subst h0
  have hl2:=(kK hE).2.2
  have hS:nO l=dx l:=by unfold nO;rw[if_pos hE]
  rw[hS,hE]
  have HE:=KO hE
  have HL:=KO (aG l)
  clear hE hS
  go_enter func267,ntmps267
  go_wp2_with fail
  refine(jI A l c _ (hA.below hb0) hl).mono ?_
  rw[HE.out]
  rintro e w1 ⟨rfl,hb1⟩
  have hb01:=aa hb0 hb1
  have c0:w1.cell? ⟨w.heap.size,0,none⟩=some (.slice A l.length c):=(bX.below hb1 bX.lt).cell 0
  clear bX hb1
  go_wp2_with fail
  refine(rE A l c _ (hA.below hb01) hl2).mono ?_
  rintro e w2 ⟨A2,c2,rfl,ho2,hb2⟩
  have ho2:=KO (av ho2 hb01.size)
  go_wp2
  refine KV (v:= .tuple #[.slice A2 l.length c2,.int .i64 0]) (by simp[results,results267,go_sem]) rfl ?_
  exact⟨A2,c2,by rw[HL.out],by rw[HL.out];exact ho2.out,aa hb01 hb2⟩
 ·have hS:nO l=[]:=by unfold nO;rw[if_neg (by omega)]
  rw[hS,hE]
  have HE:=KO hE
  clear hE hS
  go_enter func267,ntmps267
  go_wp2_with fail
  refine(jI A l c _ (hA.below hb0) hl).mono ?_
  rw[HE.out]
  rintro e w1 ⟨rfl,hb1⟩
  go_wp2
  refine KV (v:= .tuple #[.slice none 0 0,.int .i64 E]) (by simp[results,results267,go_sem]) rfl ?_
  exact⟨none,0,rfl,Li _ _ _ _,aa hb0 hb1⟩
def iT (a e:Int) (w:World) (r:Ending) (w':World):Prop:=r= .returned (.tuple #[.int .i64 a,.int .i64 e])/\Below w.heap.size w w'
theorem oM (n x:Nat) (w:World) (hn:n<=65536) (hx:x< n):
  Calls prog 290 #[.int .i64 (n:Nat),.int .i64 (x:Nat)] w fun r w'=>r= .returned (.int .i64 0)/\w=w':=by
 have h0:mG (n:Nat)=0:=by unfold mG;rw[if_neg (by omega),if_neg (by omega)]
 have h1:¬(x:Int)< 0:=by omega
 have h2:¬(n:Int)<=(x:Int):=by omega
 have H0:=KO h0
 go_enter func290,ntmps290
 go_wp2_with fail
 refine(o9 (n:Nat) _).mono ?_
 rw[H0.out]
 rintro e w1 ⟨rfl,rfl⟩
 go_wp2
 go_ret
 exact⟨rfl,rfl⟩
theorem CB (l:List Ent):dx (laid l)=l:=by
 refine Ni fun k=>?_
 by_cases hk:k< l.length
 ·have hk2:k< (dx (laid l)).length:=by rw[aG,bL];exact hk
  have hk3:k< (ai (laid l).length 0).length:=by rw[az,bL];exact hk
  rw[K7 hk2,K7 hk,vZ]
  congr 1
  have hp:(ai (laid l).length 0)[k]'hk3< (laid l).length:=eU (Lh hk3)
  rw[fD hp]
  have hidx:=iA hk3
  have h2:∀a (ha:a< (laid l).length),(ai (laid l).length 0).idxOf a=k->(laid l)[a]'ha=l[k]'hk:=by
   intro a ha he
   rw[bL]at he
   have hal:a< l.length:=by rwa [bL]at ha
   have hr:a< (ranks l.length).length:=by rw[eu];exact hal
   have:(laid l)[a]'ha=uK l ((ranks l.length)[a]'hr):=by simp[laid]
   rw[this,lC hal,he,fD hk]
  exact h2 _ hp hidx
 ·rw[Mg (by rw[aG,bL];omega),Mg (by omega)]
theorem GK {l:List Ent} {e:Ent} (h:e∈laid l):e∈l:=by
 obtain⟨r,hr,rfl⟩:=List.mem_map.1 h
 unfold ranks at hr
 obtain⟨a,ha,rfl⟩:=List.mem_map.1 hr
 have ha2:a< l.length:=by simpa using ha
 rw[fD (iO ha2)]
 exact Lh _
theorem Iy {l:List Ent} {e:Ent} (h:e∈dx l):e∈l:=by
 obtain⟨r,hr,rfl⟩:=List.mem_map.1 h
 rw[fD (eU hr)]
 exact Lh _
theorem yu {l:List Ent} (h:bQ l=0):bV l=0/\rises (l.map Ent.key)=true:=by
 unfold bQ at h
 unfold bV
 split at h
 ·cases h
 ·rename_i h1
  split at h
  ·cases h
  ·rename_i h2
   split at h
   ·rename_i h3;exact⟨by rw[if_neg h1,if_neg h2],h3⟩
   ·cases h
theorem FN {l m:List Ent} (hlen:m.length<=l.length) (hm:∀e∈m,e∈l) (h:bV l=0):bV m=0:=by
 have hl:=qN h
 unfold bV at h ⊢
 rw[if_neg (by omega)]at h ⊢
 cases hb:m.any bg
 ·rfl
 ·obtain⟨e,he,hbe⟩:=List.any_eq_true.1 hb
  rw[if_pos (List.any_eq_true.2 ⟨e,hm e he,hbe⟩)]at h
  cases h
theorem CZ {l:List Ent} (h:bQ l=0):bJ (laid l)=0:=by
 obtain⟨h1,h2⟩:=yu h
 have hf:=FN (m:=laid l) (by rw[bL];exact KS _) (fun e he=>GK he) h1
 unfold bJ
 rw[if_neg (by omega),CB]
 unfold je
 rw[if_pos h2]
theorem Bg (A B:Option Addr) (l m:List Ent) (c d:Nat) (w:World) (hA:Sl w A (l.flatMap Ent.cells)) (hB:Sl w B (m.flatMap Ent.cells)) (_hl:l.length<=4611686018427387903) (hm:m.length<=4611686018427387903):
  Calls prog 147 #[.slice A l.length c,.slice B m.length d] w fun r w'=>r= .returned (.bool (decide (l=m)))/\Below w.heap.size w w':=by
 by_cases hlen:l.length=m.length
 ·have hz:((l.length:Int)!=(m.length:Int))=false:=by simp[hlen]
  have hz2:(l.length:Int)<=(m.length:Int):=by omega
  have HL:=KO hlen
  clear hlen
  go_enter func147,ntmps147
  go_wp2
  go_loopw [13] (fun i wr=>∃k:Nat,k<=l.length/\i= .int .i64 k/\Below w.heap.size w wr/\Hid (l.take k=m.take k)) (fun i _=>l.length-(intOf i).toNat)
  case atStart=>exact⟨0,K8 _,rfl,KR _ _,rfl⟩
  case round=>
   obtain⟨k,hk,rfl,hb,hn⟩:=hrel
   by_cases hlt:k< l.length
   ·have hlt2:k< m.length:=by omega
    obtain⟨b,off,rfl,hbl,c1,c2,c3⟩:=hA.entB hb k hlt
    obtain⟨b',off',rfl,hbl',d1,d2,d3⟩:=hB.entB hb k hlt2
    have i0:(0:Int)<=(k:Int):=by omega
    have i1:(k:Int)< (l.length:Int):=by omega
    have i2:(k:Int)< (m.length:Int):=by omega
    clear hA hB
    have hne:=fun w=>pz (l[k]'hlt) (m[k]'hlt2) w
    have hgu:=o7
    go_wp2
    go_quiet (fail)
    clear hne hgu
    go_wp2
    ·have hx:GY (l[k]'hlt) (m[k]'hlt2)=true:=by assumption
     go_ret
     refine⟨aC ?_,ay hb _⟩
     symm
     rw[decide_eq_false_iff_not]
     rintro rfl
     simp[GY]at hx
    ·have hx:GY (l[k]'hlt) (m[k]'hlt2)=false:=by assumption
     go_roundw
     case rel=>
      refine⟨k+1,by omega,by go_num,ay hb _,?_⟩
      show _=_
      rw[Lc hlt,Lc hlt2,hn.out]
      simp[GY]at hx
      rw[hx]
     case measure=>simp[intOf];omega
   ·go_wp2
    go_ret
    refine⟨aC ?_,hb⟩
    have:=hn.out
    rw[KZ (by omega),KZ (by have:=HL.out;omega)]at this
    rw[this,decide_eq_true rfl]
 ·have hz:((l.length:Int)!=(m.length:Int))=true:=by simp;omega
  have HL:=KO hlen
  clear hlen
  go_enter func147,ntmps147
  go_wp2
  go_ret
  refine⟨aC ?_,KR _ _⟩
  symm
  rw[decide_eq_false_iff_not]
  rintro rfl
  exact HL.out rfl
theorem uj (A B:Option Addr) (l m:List Ent) (c d:Nat) (w:World) (hA:Sl w A (l.flatMap Ent.cells)) (hB:Sl w B (m.flatMap Ent.cells)) (hl:l.length<=4611686018427387903) (hm:m.length<=4611686018427387903):
  Calls prog 125 #[.agg #[.slice A l.length c],.agg #[.slice B m.length d]] w fun r w'=>r= .returned (.bool (decide (l=m)))/\Below w.heap.size w w':=by
 have hb0:Below w.heap.size w ((w.alloc (.cells #[.slice A l.length c] 145)).alloc (.cells #[.slice B m.length d] 145)):=((KR _ _).alloc (KS _) _).alloc (by simp) _
 go_enter func125,ntmps125
 go_wp2_with fail
 refine(Bg A B l m c d _ (hA.below hb0) (hB.below hb0) hl hm).mono ?_
 rintro e w1 ⟨rfl,hb1⟩
 go_wp2
 go_ret
 exact⟨rfl,aa hb0 hb1⟩
end Go.Proofs.YtpbmbjjfdpkhbaaGreat
