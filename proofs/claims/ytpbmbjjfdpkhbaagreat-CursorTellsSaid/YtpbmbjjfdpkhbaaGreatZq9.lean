/- part of the proof -/
import Derived.OrdersIn
import Derived.Test.YtpbmbjjfdpkhbaaGreatZq8
import Derived.Test.YtpbmbjjfdpkhbaaGreatZq2
import Derived.IntWalk
import Derived.Test.YtpbmbjjfdpkhbaaGreatZq4
import Derived.Maps.OwnSet
import Derived.Maps.Views
import Derived.Maps.AppendAt
import Derived.Deep.RegionHeld3
import Derived.Test.YtpbmbjjfdpkhbaaGreatZq1
import Derived.Deep.RegionLaw
import Derived.Deep.LoopGhost
import Derived.Deep.CutBlock
import Derived.Deep.RegionWith
import Derived.Maps.OwnOps
namespace Go.Proofs.YtpbmbjjfdpkhbaaGreat
open Go Go.RowKit
set_option linter.all false
set_option maxRecDepth 100000
set_option maxHeartbeats 32000000
open Go.Proofs.Tryz
open And renaming intro->Lr
open Below renaming refl->Lg
open Bool renaming and_eq_true->LZ,false_ne_true->Ld
open Go renaming bodyPost_ret->Li,callsIn_of_wp_marks->Nv,info_parts->Mr,wpOpIn_step->LU
open Go.IntWalk renaming i64_in->Lh
open Go.Lib renaming hid->Lc
open Go.Value renaming oneCell'->LD,ownBlock->Nt
open Go.World renaming ownsRow_nil->L6,putObj_heap_other->LA,size_alloc->Ls
open List renaming append_toArray->MP,cons_append->M4,eq_nil_of_length_eq_zero->Mo,getElem_mem->LP,map_append->Nb,nil_append->Ml,push_toArray->M3,size_toArray->LW,take_of_length_le->LF,take_succ_eq_append_getElem->LG
open Nat renaming le_refl->Lf,le_succ->MK,reduceAdd->Me,reduceSub->Mf,zero_le->LC
open Option.some renaming inj->Le
section
open Go.Shelf
attribute [local go_sem] Oper.semAt_some
theorem zA (e:Ent) (w:World):Calls prog 271 #[.agg #[.int .i64 e.key,.int .i64 e.val,.bool e.dead]] w fun r w'=>r= .returned (.bool (!e.dead))/\Below w.heap.size w w':=by
 go_enter func271,ntmps271
 go_wp2
 go_ret
 exact⟨rfl,(Lg _ _).alloc (Lf _) _⟩
theorem zI (e:Ent) (w:World):Calls prog 272 #[.agg #[.int .i64 e.key,.int .i64 e.val,.bool e.dead]] w fun r w'=>r= .returned (.agg #[.int .i64 e.key,.int .i64 e.val])/\Below w.heap.size w w':=by
 go_enter func272,ntmps272
 go_wp2_with fail
 refine Li (v:= .agg #[.int .i64 e.key,.int .i64 e.val]) (by simp[results,results272,go_sem]) rfl ⟨rfl,?_⟩
 exact((Lg _ _).alloc (Lf _) _).alloc (by simp) _
theorem KG {B:Nat} {a b c:World} (h:Below B a b) (k:Below b.heap.size b c) (hB:B<=b.heap.size:=by omega):Below B a c:=h.trans (k.mono hB)
theorem wW (A:Option Addr) (n c:Nat) (x:Nat) (w:World):
  Calls prog 284 #[.agg #[.slice A n c],.int .i64 (x:Nat)] w fun r w'=>
   r= .returned (.func (.func 291) #[] #[.pointer (some ⟨w.heap.size,0,none⟩),.pointer (some ⟨w.heap.size+1,0,none⟩)])/\w'=(w.alloc (.cells #[.slice A n c] 145)).alloc (.cells #[.int .i64 (x:Nat)] 3):=by
 go_enter func284,ntmps284
 go_wp2
 go_ret
 exact⟨rfl,rfl⟩
theorem Aa (n:Nat) (hn:n<=65536) (w:World):Calls prog 283 #[.int .i64 (n:Nat),.int .i64 0] w fun r w'=>∃e:Int,r= .returned (.tuple #[.int .i64 ((ai n 0).getD 0 0:Nat),.int .i64 e])/\Below w.heap.size w w':=by
 by_cases h:n=0
 ·subst h
  refine(zx w).mono ?_
  rintro r w' ⟨rfl,hb⟩
  exact⟨2,by simp[ai],hb⟩
 ·refine(GK n 0 hn (by omega) w).mono ?_
  rintro r w' ⟨rfl,hb⟩
  exact⟨0,rfl,hb⟩
structure R8 (A2:World) (S o:Nat) (e:Ent) (q:List Pr) (c':Nat) (A':Option Addr) (L:Nat->Bool) (t31 t32 t33 t34 t35 t36:Value) (W:World):Prop where
 d6:L 6=true->L 5=true
 d5:L 5=true->L 0=true/\L 4=true
 d4:L 4=true->L 3=true
 d3:L 3=true->L 1=true/\L 2=true
 h0:L 0=true->t31= .slice A' q.length c'
 h1:L 1=true->t32= .func (.func 272) #[] #[]
 h2:L 2=true->t33= .agg #[.int .i64 e.key,.int .i64 e.val,.bool false]
 h3:L 3=true->t34= .agg #[.int .i64 e.key,.int .i64 e.val]
 h4:L 5=false->L 4=true->∃gs,t35= .slice (some ⟨gs,0,none⟩) 1 1/\Sl W (some ⟨gs,0,none⟩) [.int .i64 e.key,.int .i64 e.val]
 hb:L 5=false->Below A2.heap.size A2 W
 h5:L 6=false->L 5=true->∃A3 c3,t36= .slice A3 (q.length+1) c3/\W.ownsRow S 55 2 (.slice A3 (q.length+1) c3) (q.length+1) ((q++[(⟨e.key,e.val⟩:Pr)]).flatMap Pr.cells)/\Mod (fun b=>S<=b) A2 W
 h7:L 6=true->∃A3 c3,W.ownsRow S 55 2 (.slice A3 (q.length+1) c3) (q.length+1) ((q++[(⟨e.key,e.val⟩:Pr)]).flatMap Pr.cells)/\Blk W o 47 #[.slice A3 (q.length+1) c3]/\Mod (fun b=>b=o∨S<=b) A2 W
theorem sN {b:Bool} (h:¬b=true):b=false:=by simpa using h
theorem J8 (A:Option Addr) (l:List Ent) (c:Nat) (w:World) (hA:Sl w A (l.flatMap Ent.cells)) (hC:bE l=0):
  Calls prog 270 #[.agg #[.slice A l.length c],.func (.func 271) #[] #[],.func (.func 272) #[] #[]] w fun r w'=>
   ∃A' c',r= .returned (.tuple #[.slice A' (au (di l)).length c',.int .i64 0])/\w'.ownsRow w.heap.size 55 2 (.slice A' (au (di l)).length c') (au (di l)).length ((au (di l)).flatMap Pr.cells)/\Below w.heap.size w w':=by
 have hl:=(lG hC).2.2
 have HC:=Lc hC
 have HA:=Lc hA
 clear hC hA
 refine df (_F:=Fence.wide) ?_
 have hdd:∀k:Nat,(Fence.wide.depth.isSome=true->1<=k):=fun k h=>by cases h
 have hwf:∀f,Fence.wide.fn f:=fun _=>trivial
 have hdp:Fence.wide.depth=none:=rfl
 have hro:Fence.wide.round=none:=rfl
 obtain⟨W0,hW0⟩:∃W0,(((w.alloc (.cells #[.slice A l.length c] 145)).alloc (.cells #[.func (.func 271) #[] #[]] 310)).alloc (.cells #[.func (.func 272) #[] #[]] 311)).alloc (.cells #[.slice none 0 0] 47)=W0:=⟨_,rfl⟩
 have hb0:Below w.heap.size w W0:=by
  rw[<-hW0];exact((((Lg _ w).alloc (Lf _) _).alloc (by simp) _).alloc (by simp;omega) _).alloc (by simp;omega) _
 have hs0:W0.heap.size=w.heap.size+4:=by rw[<-hW0];simp
 have k3:Blk W0 w.heap.size 145 #[.slice A l.length c]:=by rw[<-hW0];exact(((Blk.new w _ _).alloc _).alloc _).alloc _
 have k4:Blk W0 (w.heap.size+1) 310 #[.func (.func 271) #[] #[]]:=by
  rw[<-hW0]
  have:=Blk.new (w.alloc (.cells #[.slice A l.length c] 145)) 310 #[.func (.func 271) #[] #[]]
  rw[Ls]at this
  exact(this.alloc _).alloc _
 have k5:Blk W0 (w.heap.size+1+1) 311 #[.func (.func 272) #[] #[]]:=by
  rw[<-hW0]
  have:=Blk.new ((w.alloc (.cells #[.slice A l.length c] 145)).alloc (.cells #[.func (.func 271) #[] #[]] 310)) 311 #[.func (.func 272) #[] #[]]
  rw[Ls,Ls]at this
  exact this.alloc _
 have k6:Blk W0 (w.heap.size+1+1+1) 47 #[.slice none 0 0]:=by
  rw[<-hW0]
  have:=Blk.new (((w.alloc (.cells #[.slice A l.length c] 145)).alloc (.cells #[.func (.func 271) #[] #[]] 310)).alloc (.cells #[.func (.func 272) #[] #[]] 311)) 47 #[.slice none 0 0]
  rwa [Ls,Ls,Ls]at this
 have c3:W0.cell? ⟨w.heap.size,0,none⟩=some (.slice A l.length c):=k3.cell 0
 have K:=Lc (Lr k3 (Lr k4 (Lr k5 k6)))
 clear k3 k4 k5 k6
 refine Nv func270 rfl (hwf _) ?_ hro
 simp only[ntmps270,LW,List.length_cons,List.length_nil,Me,Mf,Array.replicate_succ,Array.replicate_zero,M3,MP,Ml,M4]
 gi_wp2_with fail
 try rw[hW0]
 clear hW0
 (try first|refine⟨hdp,?_⟩|refine⟨hdd _,?_⟩)
 refine(callsIn_wide.2 (jJ A l c _ (HA.out.below hb0) (by omega))).mono ?_
 rw[HC.out]
 rintro e w1 ⟨rfl,hb1⟩
 have hb01:=aa hb0 hb1
 have k3:=K.out.1.below hb1 K.out.1.lt
 clear c3
 have c3:w1.cell? ⟨w.heap.size,0,none⟩=some (.slice A l.length c):=k3.cell 0
 have hs1:w.heap.size+4<=w1.heap.size:=by have:=hb1.size;omega
 gi_wp2_with fail
 (try first|refine⟨hdp,?_⟩|refine⟨hdd _,?_⟩)
 obtain⟨p0,hp0⟩:∃p0,(ai l.length 0).getD 0 0=p0:=⟨_,rfl⟩
 refine(callsIn_wide.2 (Aa l.length hl _)).mono ?_
 rw[hp0]
 have HP0:=Lc hp0
 clear hp0
 rintro e w2 ⟨e0,rfl,hb2⟩
 have hb02:=aa hb01 hb2
 have k3':=k3.below hb2 k3.lt
 clear c3
 have c3:w2.cell? ⟨w.heap.size,0,none⟩=some (.slice A l.length c):=k3'.cell 0
 have hs2:w.heap.size+4<=w2.heap.size:=by have:=hb2.size;omega
 gi_wp2_with fail
 (try first|refine⟨hdp,?_⟩|refine⟨hdd _,?_⟩)
 refine(callsIn_wide.2 (wW A l.length c _ _)).mono ?_
 rintro e w3 ⟨rfl,rfl⟩
 gi_wp2_with fail
 obtain⟨W3,hW3⟩:∃W3,(w2.alloc (.cells #[.slice A l.length c] 145)).alloc (.cells #[.int .i64 (p0:Nat)] 3)=W3:=⟨_,rfl⟩
 have hb3:Below w2.heap.size w2 W3:=by rw[<-hW3];exact((Lg _ _).alloc (Lf _) _).alloc (by simp) _
 have m1:Blk W3 w2.heap.size 145 #[.slice A l.length c]:=by rw[<-hW3];exact(Blk.new _ _ _).alloc _
 have m2:Blk W3 (w2.heap.size+1) 3 #[.int .i64 (p0:Nat)]:=by
  rw[<-hW3]
  have:=Blk.new (w2.alloc (.cells #[.slice A l.length c] 145)) 3 #[.int .i64 (p0:Nat)]
  rwa [Ls]at this
 have hs3:W3.heap.size=w2.heap.size+2:=by rw[<-hW3];simp
 rw[hW3]
 clear hW3
 have hb03:=aa hb02 hb3
 have hA3:=HA.out.below hb03
 have hA3lt:l.length≠0->∀a,A=some a->a.block< w.heap.size:=by
  intro h0l a ha
  obtain⟨b,off,h1,h2,_⟩:=HA.out.ent 0 (by omega)
  rw[h1]at ha;cases ha;show b< _;omega
 have h1w:=hb1.size
 have n4:=K.out.2.1.below (aa hb1 (aa hb2 hb3)) K.out.2.1.lt
 have n5:=K.out.2.2.1.below (aa hb1 (aa hb2 hb3)) K.out.2.2.1.lt
 have n6:=K.out.2.2.2.below (aa hb1 (aa hb2 hb3)) K.out.2.2.2.lt
 rw[<-HP0.out]at m2
 obtain⟨g,hg⟩:∃g,w.heap.size=g:=⟨_,rfl⟩
 obtain⟨B1,hB1⟩:∃B1,w2.heap.size=B1:=⟨_,rfl⟩
 rw[hB1]at m1 m2 hs3 hs2 ⊢
 rw[hg]at n4 n5 n6 hb03 hs2 hA3lt ⊢
 have HF:=Lc (Lr hb03 hg)
 clear hb0 hb01 hb02 hb1 hb2 hb3 k3 k3' c3 hs1 hs0 hB1 h1w
 refine nJ hdp hwf hro rfl (enters_of func291 (by kernel_rfl) rfl)
  (zg B1 (B1+1) A l c hl W3 (m1.cell 0) m2 (by omega) hA3 (fun h a ha=>by have:=hA3lt h a ha;omega))
  (by rintro b (rfl|rfl|⟨h,a,ha,rfl⟩) <;> first|omega|(have:=hA3lt h a ha;omega)) (by rintro b rfl;omega) (fun _=>rfl)
  (fun k W=>∃A' c',Hid (Blk W (g+1) 310 #[.func (.func 271) #[] #[]]/\Blk W (g+1+1) 311 #[.func (.func 272) #[] #[]]/\
   Blk W (g+1+1+1) 47 #[.slice A' (au ((di l).take k)).length c']/\W.ownsRow (W3.heap.size+2) 55 2 (.slice A' (au ((di l).take k)).length c') (au ((di l).take k)).length ((au ((di l).take k)).flatMap Pr.cells)/\Below g w W))
  (fun _ _=>False) ?stab (fun _ _ _ h _=>h) ?start
  (fun k a' W=>∃gy,a'=⟨#[.agg #[.slice A l.length c],.func (.func 271) #[] #[],.func (.func 272) #[] #[],.pointer (some ⟨g,0,none⟩),.pointer (some ⟨g+1,0,none⟩),.pointer (some ⟨g+1+1,0,none⟩),.pointer (some ⟨g+1+1+1,0,none⟩),.int .i64 0,.int .i64 0,.int .i64 (p0:Nat),.int .i64 e0,.pointer (some ⟨gy,0,none⟩),.agg #[.slice A l.length c],.int .i64 0,.int .i64 0,.bool false,undef,.tuple #[.int .i64 (p0:Nat),.int .i64 e0],.pointer (some ⟨g,0,none⟩),.slice A l.length c,.int .i64 (l.length:Nat),.tuple #[.int .i64 (p0:Nat),.int .i64 e0],.int .i64 (p0:Nat),.int .i64 e0,.agg #[.slice A l.length c],.int .i64 (p0:Nat),.func (.func 291) #[] #[.pointer (some ⟨B1,0,none⟩),.pointer (some ⟨B1+1,0,none⟩)],(Ga l k).getD 0 undef,undef,undef,undef,undef,undef,undef,undef,undef,undef,undef],[]⟩/\Hid (Blk W gy 183 #[.int .i64 (jY l k).key,.int .i64 (jY l k).val,.bool (jY l k).dead]/\W3.heap.size+2<=gy))
  ?stabx ?assign ?body ?done (fun _ _ h _=>h.elim)
 case start=>exact⟨none,0,n4,n5,n6,L6 _ _ _ _,hb03⟩
 case stab=>
  rintro k A1 B ⟨A',c',h⟩ hm
  obtain⟨h4,h5,h6,ho,hb⟩:=h.out
  have h6l:=h6.lt
  refine⟨A',c',h4.mod hm (by omega),h5.mod hm (by omega),h6.mod hm (by omega),gz ho hm (by intro k hk;omega),hb.trans (hm.below (by omega) (by intro k hk;omega))⟩
 case stabx=>
  rintro k a' A1 B ⟨gy,rfl,h⟩ hm
  obtain⟨hy,hgy⟩:=h.out
  exact⟨gy,rfl,hy.mod hm (by omega),hgy⟩
 case assign=>
  intro y k hk A1 C hi hsz hC
  simp only[Ga]at hC ⊢
  gi_wp2
  refine hC _ _ ((Mod.refl _ _).alloc _) ?_ ⟨A1.heap.size,rfl,Blk.new _ _ _,hsz⟩
  obtain⟨A',c',h⟩:=hi
  obtain⟨h4,h5,h6,ho,hb⟩:=h.out
  exact⟨A',c',h4.alloc _,h5.alloc _,h6.alloc _,ho.alloc _,hb.alloc (by omega) _⟩
 case body=>
  rintro y k hk a' A1 hi ⟨gy,rfl,hy⟩ hsz
  obtain⟨A',c',h⟩:=hi
  obtain⟨h4,h5,h6,ho,hb⟩:=h.out
  obtain⟨hyb,hgy⟩:=hy.out
  have hkl:k< (di l).length:=by rw[aF];exact hk
  have hpl:au ((di l).take (k+1))=au ((di l).take k)++(if (jY l k).dead=true then[]else[⟨(jY l k).key,(jY l k).val⟩]):=by
   have hg1:(di l)[k]'hkl=jY l k:=by unfold jY;rw[List.getD_eq_getElem?_getD,List.getElem?_eq_getElem hkl];rfl
   unfold au
   rw[lM hkl,hg1]
   split <;> simp
  have hql:(au ((di l).take k)).length<=k:=by unfold au;rw[List.length_map];have:=gG ((di l).take k);simp at this;omega
  obtain⟨e,he⟩:∃e,jY l k=e:=⟨_,rfl⟩
  obtain⟨q,hq⟩:∃q,au ((di l).take k)=q:=⟨_,rfl⟩
  rw[he]at hyb hpl
  rw[hq]at h6 ho hpl hql
  have HPL:=Lc hpl
  have HE:=Lc he
  simp only[Ga]
  rw[show(#[Value.agg #[.int .i64 (jY l k).key,.int .i64 (jY l k).val,.bool (jY l k).dead]]:Array Value).getD 0 undef= .agg #[.int .i64 (jY l k).key,.int .i64 (jY l k).val,.bool (jY l k).dead]from rfl,HE.out]
  clear he hq hpl h hy
  have c4:A1.cell? ⟨g+1,0,none⟩=some (.func (.func 271) #[] #[]):=h4.cell 0
  have y0:A1.cell? ⟨gy,0,none⟩=some (.int .i64 e.key):=hyb.cell 0
  have y1:A1.cell? ⟨gy,1,none⟩=some (.int .i64 e.val):=hyb.cell 1
  have y2:A1.cell? ⟨gy,2,none⟩=some (.bool e.dead):=hyb.cell 2
  have HIV:=Lc (Lr h4 (Lr h5 (Lr h6 (Lr ho hb))))
  have HYB:=Lc hyb
  clear h4 h5 h6 ho hb hyb
  gi_wp2_with fail
  (try first|refine⟨hdp,?_⟩|refine⟨hdd _,?_⟩)
  refine(nu y (callsIn_wide.2 (zA e _))).mono ?_
  rintro ee A2 ⟨rfl,hbA⟩
  have h4:=HIV.out.1.below hbA HIV.out.1.lt
  have h5:=HIV.out.2.1.below hbA HIV.out.2.1.lt
  have h6:=HIV.out.2.2.1.below hbA HIV.out.2.2.1.lt
  have ho:=own_below HIV.out.2.2.2.1 hbA
  have hb:=KG HIV.out.2.2.2.2 hbA
  have hyb:=HYB.out.below hbA HYB.out.lt
  have hmd:∀S:Nat->Prop,Mod S A1 A2:=fun S=>Mod.of_ext hbA
  clear c4 y0 y1 y2
  cases hd:e.dead with
  |true=>
   have HQ:Hid (au ((di l).take (k+1))=q):=by show _=_;rw[HPL.out,hd];simp
   have HI2:=Lc (Lr h4 (Lr h5 (Lr h6 (Lr ho hb))))
   have HMD:=Lc (hmd (fun b=>b≠W3.heap.size/\b≠W3.heap.size+1/\¬(b=B1∨b=B1+1∨(l.length≠0/\∃a,A=some a/\b=a.block))))
   clear h4 h5 h6 ho hb hyb hmd
   gi_wp2
   exact⟨HMD.out,A',c',by rw[HQ.out];exact HI2.out⟩
  |false=>
   have HP2:Hid (∀W,Calls prog 272 #[.agg #[.int .i64 e.key,.int .i64 e.val,.bool false]] W fun r w'=>r= .returned (.agg #[.int .i64 e.key,.int .i64 e.val])/\Below W.heap.size W w'):=by
    show∀_,_
    intro W
    have h:=zI e W
    rw[hd]at h
    exact h
   have HQ:Hid (au ((di l).take (k+1))=q++[(⟨e.key,e.val⟩:Pr)]):=by show _=_;rw[HPL.out,hd];simp
   gi_wp2_with fail
   have H6:=Lc h6
   have H5:=Lc h5
   have HYB:=Lc hyb
   have HO:=Lc ho
   have hsz2:W3.heap.size+2<=A2.heap.size:=Nat.le_trans hsz hbA.size
   have H4:=Lc h4
   have HBG:=Lc hb
   have HBA:=Lc hbA
   obtain⟨ti0,hti⟩:=Mr IR
   have HI:=Lc hti
   clear h4 h5 h6 ho hb hyb hmd hti hbA
   refine fK (by kernel_rfl) (by kernel_rfl) (fun L a W=>∃t31 t32 t33 t34 t35 t36:Value,a=⟨#[.agg #[.slice A l.length c],.func (.func 271) #[] #[],.func (.func 272) #[] #[],.pointer (some ⟨g,0,none⟩),.pointer (some ⟨g+1,0,none⟩),.pointer (some ⟨g+1+1,0,none⟩),.pointer (some ⟨g+1+1+1,0,none⟩),.int .i64 0,.int .i64 0,.int .i64 (p0:Nat),.int .i64 e0,.pointer (some ⟨gy,0,none⟩),.agg #[.slice A l.length c],.int .i64 0,.int .i64 0,.bool false,undef,.tuple #[.int .i64 (p0:Nat),.int .i64 e0],.pointer (some ⟨g,0,none⟩),.slice A l.length c,.int .i64 (l.length:Nat),.tuple #[.int .i64 (p0:Nat),.int .i64 e0],.int .i64 (p0:Nat),.int .i64 e0,.agg #[.slice A l.length c],.int .i64 (p0:Nat),.func (.func 291) #[] #[.pointer (some ⟨B1,0,none⟩),.pointer (some ⟨B1+1,0,none⟩)],.agg #[.int .i64 e.key,.int .i64 e.val,.bool false],.func (.func 271) #[] #[],.agg #[.int .i64 e.key,.int .i64 e.val,.bool false],.bool true,t31,t32,t33,t34,t35,t36,undef],[]⟩/\R8 A2 (W3.heap.size+2) (g+1+1+1) e q c' A' L t31 t32 t33 t34 t35 t36 W) ?h0 ?hstep ?hend
   case h0=>
    have no:∀{X:Prop},(fun _:Nat=>false) 0=true->X:=fun h=>absurd h Ld
    exact⟨undef,undef,undef,undef,undef,undef,rfl,no,no,no,no,no,no,no,no,fun _ h=>no h,fun _=>(Lg _ _).drew,fun _ h=>no h,no⟩
   case hend=>
    rintro L a W hall ⟨t31,t32,t33,t34,t35,t36,rfl,hR⟩
    obtain⟨A3,c3,ho3,hb3,hm3⟩:=hR.h7 (hall 6 (by decide))
    have hm1:Mod (fun b=>b=g+1+1+1∨W3.heap.size+2<=b) A1 W:=(Mod.of_ext HBA.out).trans hm3
    have n4:=H4.out.mod hm3 (by omega)
    have n5:=H5.out.mod hm3 (by omega)
    have nb:Below g w W:=HBG.out.trans (hm3.below (by omega) (by intro k hk;omega))
    have hfin:zq W3.heap.size (fun b=>b=B1∨b=B1+1∨(l.length≠0/\∃a,A=some a/\b=a.block)) (fun W=>∃A' c',Hid (Blk W (g+1) 310 #[.func (.func 271) #[] #[]]/\Blk W (g+1+1) 311 #[.func (.func 272) #[] #[]]/\
      Blk W (g+1+1+1) 47 #[.slice A' (au ((di l).take (k+1))).length c']/\W.ownsRow (W3.heap.size+2) 55 2 (.slice A' (au ((di l).take (k+1))).length c') (au ((di l).take (k+1))).length ((au ((di l).take (k+1))).flatMap Pr.cells)/\Below g w W)) (fun _ _=>False) A1 .normal ⟨#[.agg #[.slice A l.length c],.func (.func 271) #[] #[],.func (.func 272) #[] #[],.pointer (some ⟨g,0,none⟩),.pointer (some ⟨g+1,0,none⟩),.pointer (some ⟨g+1+1,0,none⟩),.pointer (some ⟨g+1+1+1,0,none⟩),.int .i64 0,.int .i64 0,.int .i64 (p0:Nat),.int .i64 e0,.pointer (some ⟨gy,0,none⟩),.agg #[.slice A l.length c],.int .i64 0,.int .i64 0,.bool false,undef,.tuple #[.int .i64 (p0:Nat),.int .i64 e0],.pointer (some ⟨g,0,none⟩),.slice A l.length c,.int .i64 (l.length:Nat),.tuple #[.int .i64 (p0:Nat),.int .i64 e0],.int .i64 (p0:Nat),.int .i64 e0,.agg #[.slice A l.length c],.int .i64 (p0:Nat),.func (.func 291) #[] #[.pointer (some ⟨B1,0,none⟩),.pointer (some ⟨B1+1,0,none⟩)],.agg #[.int .i64 e.key,.int .i64 e.val,.bool false],.func (.func 271) #[] #[],.agg #[.int .i64 e.key,.int .i64 e.val,.bool false],.bool true,t31,t32,t33,t34,t35,t36,undef],[]⟩ W:=by
     refine⟨hm1.mono (fun b hb1 hb2=>?_),A3,c3,n4,n5,?_,?_,nb⟩
     ·rcases hb2 with rfl|hb2
      ·refine⟨by omega,by omega,?_⟩
       rintro(h|h|⟨h,a,ha,h2⟩)
       ·omega
       ·omega
       ·have:=hA3lt h a ha;omega
      ·refine⟨by omega,by omega,?_⟩
       rintro(h|h|⟨h,a,ha,h2⟩)
       ·omega
       ·omega
       ·have:=hA3lt h a ha;omega
     ·rw[HQ.out,List.length_append];exact hb3
     ·rw[HQ.out,List.length_append];exact ho3
    exact hfin
   case hstep=>
    rintro L a W i o' ho' hLi hdep ⟨t31,t32,t33,t34,t35,t36,rfl,hR⟩
    have HR:=Lc hR
    have HL:=Lc hLi
    match i,ho' with
    |0,ho'=>
     obtain rfl:=Le ho'
     have l5:L 5=false:=sN (fun h=>absurd (hR.d5 h).1 (by rw[HL.out];exact Ld))
     have hbW:=hR.hb l5
     have k6:=H6.out.below hbW H6.out.lt
     have cc:W.cell? ⟨g+1+1+1,0,none⟩=some (.slice A' q.length c'):=k6.cell 0
     clear k6
     refine LU rfl (fun K1 hK1=>?_)
     have hK:=Lc hK1
     clear hK1 hR hLi hdep
     gi_wp2_with fail
     exact hK.out _ _ ⟨_,_,_,_,_,_,rfl,(fun h=>by simpa using HR.out.d6 (by simpa using h)),(fun h=>by have h2:=HR.out.d5 (by simpa using h);exact⟨by first|rfl|(simpa using h2.1),by first|rfl|(simpa using h2.2)⟩),(fun h=>by have h2:=HR.out.d4 (by simpa using h);first|rfl|(simpa using h2)),(fun h=>by have h2:=HR.out.d3 (by simpa using h);exact⟨by first|rfl|(simpa using h2.1),by first|rfl|(simpa using h2.2)⟩),(fun _=>rfl),(fun h=>HR.out.h1 (by simpa using h)),(fun h=>HR.out.h2 (by simpa using h)),(fun h=>HR.out.h3 (by simpa using h)),(fun h h'=>HR.out.h4 (by simpa using h) (by simpa using h')),(fun h=>HR.out.hb (by simpa using h)),(fun h h'=>HR.out.h5 (by simpa using h) (by simpa using h')),(fun h=>HR.out.h7 (by simpa using h))⟩
    |1,ho'=>
     obtain rfl:=Le ho'
     have l5:L 5=false:=sN (fun h=>absurd (hR.d3 (hR.d4 (hR.d5 h).2)).1 (by rw[HL.out];exact Ld))
     have hbW:=hR.hb l5
     have k5:=H5.out.below hbW H5.out.lt
     have cc:W.cell? ⟨g+1+1,0,none⟩=some (.func (.func 272) #[] #[]):=k5.cell 0
     clear k5
     refine LU rfl (fun K1 hK1=>?_)
     have hK:=Lc hK1
     clear hK1 hR hLi hdep
     gi_wp2_with fail
     exact hK.out _ _ ⟨_,_,_,_,_,_,rfl,(fun h=>by simpa using HR.out.d6 (by simpa using h)),(fun h=>by have h2:=HR.out.d5 (by simpa using h);exact⟨by first|rfl|(simpa using h2.1),by first|rfl|(simpa using h2.2)⟩),(fun h=>by have h2:=HR.out.d4 (by simpa using h);first|rfl|(simpa using h2)),(fun h=>by have h2:=HR.out.d3 (by simpa using h);exact⟨by first|rfl|(simpa using h2.1),by first|rfl|(simpa using h2.2)⟩),(fun h=>HR.out.h0 (by simpa using h)),(fun _=>rfl),(fun h=>HR.out.h2 (by simpa using h)),(fun h=>HR.out.h3 (by simpa using h)),(fun h h'=>HR.out.h4 (by simpa using h) (by simpa using h')),(fun h=>HR.out.hb (by simpa using h)),(fun h h'=>HR.out.h5 (by simpa using h) (by simpa using h')),(fun h=>HR.out.h7 (by simpa using h))⟩
    |2,ho'=>
     obtain rfl:=Le ho'
     have l5:L 5=false:=sN (fun h=>absurd (hR.d3 (hR.d4 (hR.d5 h).2)).2 (by rw[HL.out];exact Ld))
     have hbW:=hR.hb l5
     have ky:=HYB.out.below hbW HYB.out.lt
     have cc:W.cell? ⟨gy,0,none⟩=some (.int .i64 e.key):=ky.cell 0
     have cc1:W.cell? ⟨gy,1,none⟩=some (.int .i64 e.val):=ky.cell 1
     have cc2:W.cell? ⟨gy,2,none⟩=some (.bool e.dead):=ky.cell 2
     clear ky
     refine LU rfl (fun K1 hK1=>?_)
     have hK:=Lc hK1
     clear hK1 hR hLi hdep
     gi_wp2_with fail
     exact hK.out _ _ ⟨_,_,_,_,_,_,rfl,(fun h=>by simpa using HR.out.d6 (by simpa using h)),(fun h=>by have h2:=HR.out.d5 (by simpa using h);exact⟨by first|rfl|(simpa using h2.1),by first|rfl|(simpa using h2.2)⟩),(fun h=>by have h2:=HR.out.d4 (by simpa using h);first|rfl|(simpa using h2)),(fun h=>by have h2:=HR.out.d3 (by simpa using h);exact⟨by first|rfl|(simpa using h2.1),by first|rfl|(simpa using h2.2)⟩),(fun h=>HR.out.h0 (by simpa using h)),(fun h=>HR.out.h1 (by simpa using h)),(fun _=>rfl),(fun h=>HR.out.h3 (by simpa using h)),(fun h h'=>HR.out.h4 (by simpa using h) (by simpa using h')),(fun h=>HR.out.hb (by simpa using h)),(fun h h'=>HR.out.h5 (by simpa using h) (by simpa using h')),(fun h=>HR.out.h7 (by simpa using h))⟩
    |3,ho'=>
     obtain rfl:=Le ho'
     have dep1:L 1=true:=hdep ⟨1,.data⟩ (by simp) rfl
     have dep2:L 2=true:=hdep ⟨2,.data⟩ (by simp) rfl
     have l5:L 5=false:=sN (fun h=>absurd (hR.d4 (hR.d5 h).2) (by rw[HL.out];exact Ld))
     have hbW:=hR.hb l5
     obtain rfl:=hR.h1 dep1
     obtain rfl:=hR.h2 dep2
     refine LU rfl (fun K1 hK1=>?_)
     have hK:=Lc hK1
     clear hK1 hR hLi hdep
     gi_wp2_with fail
     (try first|refine⟨hdp,?_⟩|refine⟨hdd _,?_⟩)
     refine(nu y (callsIn_wide.2 (HP2.out _))).mono ?_
     rintro ee W5 ⟨rfl,hbc⟩
     gi_wp2_with fail
     exact hK.out _ _ ⟨_,_,_,_,_,_,rfl,(fun h=>by simpa using HR.out.d6 (by simpa using h)),(fun h=>by have h2:=HR.out.d5 (by simpa using h);exact⟨by first|rfl|(simpa using h2.1),by first|rfl|(simpa using h2.2)⟩),(fun h=>by have h2:=HR.out.d4 (by simpa using h);first|rfl|(simpa using h2)),(fun _=>⟨by simpa using dep1,by simpa using dep2⟩),(fun h=>HR.out.h0 (by simpa using h)),(fun h=>HR.out.h1 (by simpa using h)),(fun h=>HR.out.h2 (by simpa using h)),(fun _=>rfl),(fun _ h=>absurd (HR.out.d4 (by simpa using h)) (by rw[HL.out];exact Ld)),(fun _=>aa hbW hbc),(fun _ h=>absurd (HR.out.d4 (HR.out.d5 (by simpa using h)).2) (by rw[HL.out];exact Ld)),(fun h=>absurd (HR.out.d4 (HR.out.d5 (HR.out.d6 (by simpa using h))).2) (by rw[HL.out];exact Ld))⟩
    |4,ho'=>
     obtain rfl:=Le ho'
     have dep3:L 3=true:=hdep ⟨3,.data⟩ (by simp) rfl
     have l5:L 5=false:=sN (fun h=>absurd (hR.d5 h).2 (by rw[HL.out];exact Ld))
     have hbW:=hR.hb l5
     obtain rfl:=hR.h3 dep3
     refine LU rfl (fun K1 hK1=>?_)
     have hK:=Lc hK1
     clear hK1 hR hLi hdep
     gi_wp2_with fail
     exact hK.out _ _ ⟨_,_,_,_,_,_,rfl,(fun h=>by simpa using HR.out.d6 (by simpa using h)),(fun h=>by have h2:=HR.out.d5 (by simpa using h);exact⟨by first|rfl|(simpa using h2.1),by first|rfl|(simpa using h2.2)⟩),(fun _=>by simpa using dep3),(fun h=>by have h2:=HR.out.d3 (by simpa using h);exact⟨by first|rfl|(simpa using h2.1),by first|rfl|(simpa using h2.2)⟩),(fun h=>HR.out.h0 (by simpa using h)),(fun h=>HR.out.h1 (by simpa using h)),(fun h=>HR.out.h2 (by simpa using h)),(fun h=>HR.out.h3 (by simpa using h)),(fun _ _=>⟨_,rfl,cZ _ _ _⟩),(fun _=>hbW.alloc hbW.size _),(fun _ h=>absurd (HR.out.d5 (by simpa using h)).2 (by rw[HL.out];exact Ld)),(fun h=>absurd (HR.out.d5 (HR.out.d6 (by simpa using h))).2 (by rw[HL.out];exact Ld))⟩
    |5,ho'=>
     obtain rfl:=Le ho'
     have dep0:L 0=true:=hdep ⟨0,.data⟩ (by simp) rfl
     have dep4:L 4=true:=hdep ⟨4,.data⟩ (by simp) rfl
     have hbW:=hR.hb hLi
     obtain rfl:=hR.h0 dep0
     obtain⟨gs,rfl,hsl⟩:=hR.h4 hLi dep4
     have how:=own_below HO.out hbW
     have hsw:=hbW.size
     refine LU rfl (fun K1 hK1=>?_)
     have hK:=Lc hK1
     clear hK1 hR hLi hdep
     refine pI W rfl (.tmp 31) (.tmp 35) _ rfl (W3.heap.size+2) 55 ti0 _ 2 16 underlying47 HI.out.1 HI.out.2.1 HI.out.2.2.1 HI.out.2.2.2 rfl (by omega) (.slice A' q.length c') q.length _ (by rfl) how (some ⟨gs,0,none⟩) 1 1 [.int .i64 e.key,.int .i64 e.val] (by rfl) hsl rfl (by simp[LD]) (by unfold maxLen;omega) (by omega) (by omega) ?_
     intro v' w' hoA hgA
     obtain⟨A3,c3,rfl,_,_⟩:=ak hoA
     exact hK.out _ _ ⟨_,_,_,_,_,_,rfl,(fun _=>by simp),(fun _=>⟨by simpa using dep0,by simpa using dep4⟩),(fun h=>by have h2:=HR.out.d4 (by simpa using h);first|rfl|(simpa using h2)),(fun h=>by have h2:=HR.out.d3 (by simpa using h);exact⟨by first|rfl|(simpa using h2.1),by first|rfl|(simpa using h2.2)⟩),(fun h=>HR.out.h0 (by simpa using h)),(fun h=>HR.out.h1 (by simpa using h)),(fun h=>HR.out.h2 (by simpa using h)),(fun h=>HR.out.h3 (by simpa using h)),(fun h=>absurd h (by simp)),(fun h=>absurd h (by simp)),(fun _ _=>⟨A3,c3,rfl,by rw[List.flatMap_append];simpa[Pr.cells]using hoA,(Mod.of_ext hbW).grown hgA (fun k hk=> .inl (how.lt k hk).1)⟩),(fun h=>absurd (HR.out.d6 (by simpa using h)) (by rw[HL.out];exact Ld))⟩
    |6,ho'=>
     obtain rfl:=Le ho'
     have dep5:L 5=true:=hdep ⟨5,.data⟩ (by simp) rfl
     obtain⟨A3,c3,rfl,ho3,hm3⟩:=hR.h5 hLi dep5
     have k6:=H6.out.mod hm3 (by have:=H6.out.lt;omega)
     have cc:W.cell? ⟨g+1+1+1,0,none⟩=some (.slice A' q.length c'):=k6.cell 0
     have cf:W.frozen? ⟨g+1+1+1,0,none⟩=false:=k6.frozen 0
     have K6:=Lc k6
     have HO3:=Lc ho3
     have HM3:=Lc hm3
     clear k6 ho3 hm3
     refine LU rfl (fun K1 hK1=>?_)
     have hK:=Lc hK1
     clear hK1 hR hLi hdep
     gi_wp2_with fail
     exact hK.out _ _ ⟨_,_,_,_,_,_,rfl,(fun _=>by simpa using dep5),(fun h=>by have h2:=HR.out.d5 (by simpa using h);exact⟨by first|rfl|(simpa using h2.1),by first|rfl|(simpa using h2.2)⟩),(fun h=>by have h2:=HR.out.d4 (by simpa using h);first|rfl|(simpa using h2)),(fun h=>by have h2:=HR.out.d3 (by simpa using h);exact⟨by first|rfl|(simpa using h2.1),by first|rfl|(simpa using h2.2)⟩),(fun h=>HR.out.h0 (by simpa using h)),(fun h=>HR.out.h1 (by simpa using h)),(fun h=>HR.out.h2 (by simpa using h)),(fun h=>HR.out.h3 (by simpa using h)),(fun h=>absurd dep5 (by simp at h;simp[h])),(fun h=>absurd dep5 (by simp at h;simp[h])),(fun h=>absurd h (by simp)),(fun _=>⟨A3,c3,gu HO3.out (fun e=>by have:=(HO3.out.lt _ e).1;dsimp only at this;omega) _,by have:=K6.out.set_ 0 (.slice A3 (q.length+1) c3);simpa using this,(HM3.out.mono (fun _ _ h=> .inr h)).setCell (p:=⟨g+1+1+1,0,none⟩) (.inl rfl) _⟩)⟩
    |n+7,ho'=>exact absurd ho' (by simp)
 case done=>
  rintro W ⟨A',c',h⟩ hD
  have htk:(di l).take l.length=di l:=LF (by rw[aF];exact Lf _)
  rw[htk]at h
  obtain⟨h4,h5,h6,ho,hb⟩:=h.out
  have c6:W.cell? ⟨g+1+1+1,0,none⟩=some (.slice A' (au (di l)).length c'):=h6.cell 0
  have f6:=h6.frozen 0
  have h6l:=h6.lt
  have h6s:Blk (W.setCell ⟨g+1+1+1,0,none⟩ (.slice A' (au (di l)).length c')) (g+1+1+1) 47 #[.slice A' (au (di l)).length c']:=by
   have:=h6.set_ 0 (.slice A' (au (di l)).length c')
   simpa using this
  have HO:=Lc (gu ho (p:=⟨g+1+1+1,0,none⟩) (fun e=>by have:=(ho.lt _ e).1;dsimp only at this;omega) (.slice A' (au (di l)).length c'))
  have HBB:=Lc (hb.setCell (p:=⟨g+1+1+1,0,none⟩) (by show g<=g+1+1+1;omega) (.slice A' (au (di l)).length c'))
  have HD2:Hid ((W.setCell ⟨g+1+1+1,0,none⟩ (.slice A' (au (di l)).length c')).heap[W3.heap.size]?=some (.deferred (some []))):=(Below.heap_setCell W ⟨g+1+1+1,0,none⟩ _ W3.heap.size (by show W3.heap.size≠g+1+1+1;omega)).trans hD
  obtain⟨W4,hW4⟩:∃W4,W.setCell ⟨g+1+1+1,0,none⟩ (.slice A' (au (di l)).length c')=W4:=⟨_,rfl⟩
  rw[hW4]at h6s HO HBB HD2
  have hB6:Blk (W4.putObj W3.heap.size (.deferred none)) (g+1+1+1) 47 #[.slice A' (au (di l)).length c']:=h6s.of (LA (by omega))
  have e6:(W4.putObj W3.heap.size (.deferred none)).cell? ⟨g+1+1+1,0,none⟩=some (.slice A' (au (di l)).length c'):=hB6.cell 0
  have HE6:=Lc e6
  clear e6 hB6 h6s
  gi_wp2_with fail
  try rw[hW4]
  have e6:=HE6.out
  refine jO (v:= .tuple #[.slice A' (au (di l)).length c',.int .i64 0]) HD2.out (by simp[results,results270,go_sem,e6]) ⟨A',c',rfl,?_,?_⟩
  ·rw[hg]
   exact ay (gz (Sx:=fun b=>b=W3.heap.size) HO.out (Mod.putObj (S:=fun b=>b=W3.heap.size) (Mod.refl _ _) rfl _) (fun k hk h=>by omega)) (by omega)
  ·rw[hg]
   exact HBB.out.trans ⟨rfl,rfl,rfl,by simp[World.putObj],fun k hk=>LA (by omega)⟩
end
def Ir (l:List Ent):List Pr:=if bE l=0 then au (di l)else[]
def JJ (l:List Ent):Nat:=if bE l=0 then(dx l).length else 0
def ll (m:List Pr) (e:Int) (w:World) (r:Ending) (w':World):Prop:=
 ∃A c,r= .returned (.tuple #[.slice A m.length c,.int .i64 e])/\w'.ownsRow w.heap.size 55 2 (.slice A m.length c) m.length (m.flatMap Pr.cells)/\Below w.heap.size w w'
theorem Ip (A:Option Addr) (l:List Ent) (c:Nat) (w:World) (hA:Sl w A (l.flatMap Ent.cells)) (hl:l.length<=4611686018427387903) (hC:¬bE l=0):
  Calls prog 270 #[.agg #[.slice A l.length c],.func (.func 271) #[] #[],.func (.func 272) #[] #[]] w (ll [] (bE l) w):=by
 obtain⟨E,hE⟩:∃E,bE l=E:=⟨_,rfl⟩
 rw[hE]at hC ⊢
 have HE:=Lc hE
 have h1:(E !=0)=true:=by simpa using hC
 have HA:=Lc hA
 refine df (_F:=Fence.wide) ?_
 have hdd:∀k:Nat,(Fence.wide.depth.isSome=true->1<=k):=fun k h=>by cases h
 have hwf:∀f,Fence.wide.fn f:=fun _=>trivial
 have hdp:Fence.wide.depth=none:=rfl
 have hro:Fence.wide.round=none:=rfl
 obtain⟨W0,hW0⟩:∃W0,(((w.alloc (.cells #[.slice A l.length c] 145)).alloc (.cells #[.func (.func 271) #[] #[]] 310)).alloc (.cells #[.func (.func 272) #[] #[]] 311)).alloc (.cells #[.slice none 0 0] 47)=W0:=⟨_,rfl⟩
 have hb0:Below w.heap.size w W0:=by
  rw[<-hW0];exact((((Lg _ w).alloc (Lf _) _).alloc (by simp) _).alloc (by simp;omega) _).alloc (by simp;omega) _
 have k3:Blk W0 w.heap.size 145 #[.slice A l.length c]:=by rw[<-hW0];exact(((Blk.new w _ _).alloc _).alloc _).alloc _
 have k6:Blk W0 (w.heap.size+1+1+1) 47 #[.slice none 0 0]:=by
  rw[<-hW0]
  have:=Blk.new (((w.alloc (.cells #[.slice A l.length c] 145)).alloc (.cells #[.func (.func 271) #[] #[]] 310)).alloc (.cells #[.func (.func 272) #[] #[]] 311)) 47 #[.slice none 0 0]
  rwa [Ls,Ls,Ls]at this
 have c3:W0.cell? ⟨w.heap.size,0,none⟩=some (.slice A l.length c):=k3.cell 0
 refine Nv func270 rfl (hwf _) ?_ hro
 simp only[ntmps270,LW,List.length_cons,List.length_nil,Me,Mf,Array.replicate_succ,Array.replicate_zero,M3,MP,Ml,M4]
 gi_wp2_with fail
 try rw[hW0]
 (try first|refine⟨hdp,?_⟩|refine⟨hdd _,?_⟩)
 refine(callsIn_wide.2 (jJ A l c _ (HA.out.below hb0) hl)).mono ?_
 rw[HE.out]
 rintro e w1 ⟨rfl,hb1⟩
 have hb01:=aa hb0 hb1
 have k61:=k6.below hb1 k6.lt
 have c6:w1.cell? ⟨w.heap.size+1+1+1,0,none⟩=some (.slice none 0 0):=k61.cell 0
 have f6:=k61.frozen 0
 have e6:(w1.setCell ⟨w.heap.size+1+1+1,0,none⟩ (.slice none 0 0)).cell? ⟨w.heap.size+1+1+1,0,none⟩=some (.slice none 0 0):=(k61.set_ 0 _).cell 0
 gi_wp2_with fail
 refine⟨.tuple #[.slice none 0 0,.int .i64 E],by simp[results,results270,go_sem,e6],none,0,rfl,L6 _ _ _ _,?_⟩
 exact hb01.setCell (p:=⟨w.heap.size+1+1+1,0,none⟩) (by show w.heap.size<=w.heap.size+1+1+1;omega) _
theorem EY (A:Option Addr) (l:List Ent) (c:Nat) (w:World) (hA:Sl w A (l.flatMap Ent.cells)) (hl:l.length<=4611686018427387903):
  Calls prog 264 #[.agg #[.slice A l.length c]] w (ll (Ir l) (bE l) w):=by
 have hb0:Below w.heap.size w (w.alloc (.cells #[.slice A l.length c] 145)):=(Lg _ _).alloc (Lf _) _
 have hall:∀W,Below w.heap.size w W->Calls prog 270 #[.agg #[.slice A l.length c],.func (.func 271) #[] #[],.func (.func 272) #[] #[]] W (ll (Ir l) (bE l) W):=by
  intro W hW
  by_cases hC:bE l=0
  ·have h:=J8 A l c W (hA.below hW) hC
   have h2:Ir l=au (di l):=by unfold Ir;rw[if_pos hC]
   rw[h2,hC]
   exact h
  ·have h2:Ir l=[]:=by unfold Ir;rw[if_neg hC]
   rw[h2]
   exact Ip A l c W (hA.below hW) hl hC
 have HALL:=Lc hall
 obtain⟨E,hE⟩:∃E,bE l=E:=⟨_,rfl⟩
 obtain⟨m,hm⟩:∃m,Ir l=m:=⟨_,rfl⟩
 rw[hE,hm]
 rw[hE,hm]at HALL
 go_enter func264,ntmps264
 go_wp2_with fail
 refine(HALL.out _ hb0).mono ?_
 rintro e w1 ⟨A1,c1,rfl,ho1,hb1⟩
 have HO:=Lc (ay ho1 hb0.size)
 go_wp2
 refine Li (v:= .tuple #[.slice A1 m.length c1,.int .i64 E]) (by simp[results,results264,go_sem]) rfl ?_
 exact⟨A1,c1,rfl,HO.out,aa hb0 hb1⟩
theorem iQ (A:Option Addr) (l:List Ent) (c:Nat) (w:World) (hA:Sl w A (l.flatMap Ent.cells)) (hl:l.length<=4611686018427387903):
  Calls prog 265 #[.agg #[.slice A l.length c]] w (je (JJ l) (bE l) w):=by
 have hb0:Below w.heap.size w (w.alloc (.cells #[.slice A l.length c] 145)):=(Lg _ _).alloc (Lf _) _
 have bX:=Blk.new w 145 #[.slice A l.length c]
 have HA:=Lc hA
 obtain⟨E,hE⟩:∃E,bE l=E:=⟨_,rfl⟩
 have HE:=Lc hE
 rw[hE]
 obtain⟨N,hN⟩:∃N,JJ l=N:=⟨_,rfl⟩
 have HN:=Lc hN
 rw[hN]
 clear hA hE hN
 go_enter func265,ntmps265
 go_wp2_with fail
 refine(jJ A l c _ (HA.out.below hb0) hl).mono ?_
 rw[HE.out]
 rintro e w1 ⟨rfl,hb1⟩
 have hb01:=aa hb0 hb1
 have bX1:=bX.below hb1 bX.lt
 have c0:w1.cell? ⟨w.heap.size,0,none⟩=some (.slice A l.length c):=bX1.cell 0
 clear bX
 by_cases h0:E=0
 ·subst h0
  have HNL:Hid (N=(dx l).length):=by show _=_;rw[<-HN.out];unfold JJ;rw[if_pos HE.out]
  go_wp2
  go_loopw [2,15] (fun v i wr=>∃k s:Nat,k<=l.length/\i= .int .i64 k/\v= .int .i64 s/\Below w1.heap.size w1 wr/\Hid (s=(dx (l.take k)).length)) (fun _ i _=>l.length-(intOf i).toNat)
  case atStart=>exact⟨0,0,LC _,rfl,rfl,Lg _ _,rfl⟩
  case round=>
   clear c0
   obtain⟨k,s,hk,rfl,rfl,hb,hs⟩:=hrel
   have hsk:s<=k:=by rw[hs.out];have:=gG (l.take k);simp at this;omega
   by_cases hlt:k< l.length
   ·obtain⟨b,off,rfl,hbl,c1,c2,c3⟩:=HA.out.entB (aa hb01 hb) k hlt
    have hls:=lM hlt
    obtain⟨x,hx⟩:∃x,l[k]'hlt=x:=⟨_,rfl⟩
    rw[hx]at c1 c2 c3 hls
    have i0:(0:Int)<=(k:Int):=by omega
    have i1:(k:Int)< (l.length:Int):=by omega
    have ba:Below wr.heap.size wr (wr.alloc (.cells #[.int .i64 x.key,.int .i64 x.val,.bool x.dead] 183)):=(Lg _ _).alloc (Lf _) _
    have HBA:=Lc ba
    clear ba hx
    cases hd:x.dead
    ·rw[hd]at c3 hls HBA
     have HLS:Hid (s+1=(dx (l.take (k+1))).length):=by show _=_;rw[hls,hs.out];simp
     clear hls hd
     go_wp2_with fail
     go_roundw
     case rel=>exact⟨k+1,s+1,by omega,by go_num,by go_num,aa hb HBA.out,HLS⟩
     case measure=>simp[intOf];omega
    ·rw[hd]at c3 hls HBA
     have HLS:Hid (s=(dx (l.take (k+1))).length):=by show _=_;rw[hls,hs.out];simp
     clear hls hd
     go_wp2_with fail
     go_roundw
     case rel=>exact⟨k+1,s,by omega,by go_num,rfl,aa hb HBA.out,HLS⟩
     case measure=>simp[intOf];omega
   ·have HS:Hid (s=N):=by show _=_;rw[HNL.out,hs.out,LF (by omega)]
    go_wp2
    refine Li (v:= .tuple #[.int .i64 (s:Nat),.int .i64 0]) (by simp[results,results265,go_sem]) rfl ?_
    rw[<-HS.out]
    exact⟨rfl,aa hb01 hb⟩
 ·have h1:(E !=0)=true:=by simpa using h0
  have HNL:Hid (N=0):=by show _=_;rw[<-HN.out];unfold JJ;rw[HE.out,if_neg h0]
  clear h0 c0
  go_wp2
  refine Li (v:= .tuple #[.int .i64 0,.int .i64 E]) (by simp[results,results265,go_sem]) rfl ?_
  rw[HNL.out]
  exact⟨rfl,hb01⟩
def jW (rs:Lv):List Pr:=if fA rs=0 then au (pE rs)else[]
theorem oW (l:List Ent):dx (dx l)=dx l:=by unfold dx;rw[List.filter_filter];simp
theorem rJ {rs:Lv}:(au (pE rs)).length=(pE rs).length:=by
 unfold au pE
 rw[List.length_map,oW]
theorem Kl {rs:Lv} (h:fA rs=0):Ir (mL rs true)=jW rs/\bE (mL rs true)=0:=by
 have hm:=lI.1 h
 have h1:=Ki true hm.mE
 refine⟨?_,h1⟩
 unfold Ir jW
 rw[if_pos h1,if_pos h,KE true hm.mE]
 rfl
theorem vO {rs:Lv} (h:fA rs=0):(jW rs).length=(pE rs).length:=by unfold jW;rw[if_pos h,rJ]
abbrev aB (Rs:List Rm):Lv:=Rs.map Rm.l
theorem dw (Rs:List Rm):(aB Rs).length=Rs.length:=by simp
theorem gF {Rs:List Rm} {k:Nat} (h:k< Rs.length):lev (aB Rs) k=(Rs[k]'h).l:=by rw[BQ (by simpa using h)];simp
theorem jB {rs:Lv} {k:Nat} (h:k< rs.length):tot (rs.take (k+1))=tot (rs.take k)+(lev rs k).length:=by
 rw[LG h,FD,BQ h]
theorem jl:∀(rs:Lv) (k:Nat),tot (rs.take k)<=tot rs
 |[],k=>by simp[tot]
 |l::rs,0=>by simp[tot]
 |l::rs,k+1=>by
  have:=jl rs k
  rw[List.take_succ_cons,oC,oC];omega
theorem Gh (Rs:List Rm):tot (aB Rs)=(Rs.map (fun r=>r.l.length)).sum:=by unfold tot aB;rw[List.map_map];rfl
theorem Dv {l:List Ent} (h:bE l=0):JJ l=l.length↔gL l=false:=by
 unfold JJ gL
 rw[if_pos h]
 constructor
 ·intro he
  rw[List.any_eq_false]
  intro e hm
  have h1:dx l=l:=by
   unfold dx at he ⊢
   exact List.filter_eq_self.2 (fun a ha=>by
    have:=List.length_filter_eq_length_iff.1 he a ha
    exact this)
  rw[<-h1]at hm
  have:=(List.mem_filter.1 hm).2
  simpa using this
 ·intro hd
  rw[List.any_eq_false]at hd
  unfold dx
  congr 1
  exact List.filter_eq_self.2 (fun a ha=>by simpa using hd a ha)
theorem Gl {rs:Lv} {k:Nat} (h:k< rs.length) (hb:jA rs.length k (lev rs k)=false):fA rs=8:=by
 unfold fA
 rw[if_neg]
 unfold kG iE
 intro hx
 simp only[LZ,decide_eq_true_eq]at hx
 rw[hx.1.2 k h]at hb
 cases hb
theorem GY {rs:Lv} (h:ig rs=false):fA rs=8:=by unfold fA kG;rw[h];rfl
theorem FE {rs:Lv} (h:ig rs=true) (h2:iE rs rs.length=true):fA rs=if 65536< tot rs then 8 else 0:=by
 unfold fA kG
 rw[h,h2]
 by_cases h3:65536< tot rs
 ·rw[if_pos h3,if_neg (by simp;omega)]
 ·rw[if_neg h3,if_pos (by simp;omega)]
theorem xm (B:Option Addr) (Rs:List Rm) (c:Nat) (n:Int) (w:World) (hB:RunsAt w B Rs) (hT:tot (aB Rs)<=1000000) (hl:Rs.length<=1000000):
  Calls prog 261 #[.agg #[.slice B Rs.length c,.int .u64 n]] w fun r w'=>r= .returned (.int .i64 (tot (aB Rs):Nat))/\Below w.heap.size w w':=by
 have hb0:Below w.heap.size w (w.alloc (.cells #[.slice B Rs.length c,.int .u64 n] 38)):=(Lg _ _).alloc (Lf _) _
 go_enter func261,ntmps261
 go_wp2
 go_loopw [2,8] (fun a i wr=>∃k m:Nat,k<=Rs.length/\i= .int .i64 k/\a= .int .i64 m/\Below w.heap.size w wr/\m<=1000000/\Hid (m=tot ((aB Rs).take k))) (fun _ i _=>Rs.length-(intOf i).toNat)
 case atStart=>exact⟨0,0,LC _,rfl,rfl,hb0,by omega,rfl⟩
 case round=>
  obtain⟨k,m,hk,rfl,rfl,hb,hm,hd⟩:=hrel
  by_cases hlt:k< Rs.length
  ·obtain⟨b,off,rfl,hbl,cp⟩:=hB.sl.oneB hb k hlt
   have hs:=jB (rs:=aB Rs) (k:=k) (by simpa using hlt)
   rw[gF hlt]at hs
   have hle:=jl (aB Rs) (k+1)
   obtain⟨r,hr⟩:∃r,Rs[k]'hlt=r:=⟨_,rfl⟩
   rw[hr]at cp hs
   obtain⟨l,A,cl⟩:=r
   have cp1:wr.cell? ⟨b,off+k,none⟩=some (.slice A l.length cl):=cp
   dsimp only at hs
   have hki:(0:Int)<=(k:Int):=by omega
   have hki2:(k:Int)< (Rs.length:Int):=by omega
   have hsum:m+l.length<=1000000:=by have:=hd.out;omega
   have hw:IntKind.i64.wrap ((m:Int)+(l.length:Int))=((m+l.length:Nat):Int):=(Lh _ (by omega)).trans (by omega)
   have HS:=Lc hs
   have hbs:=hb.size
   clear cp hr hs hle
   go_wp2
   go_roundw
   case rel=>exact⟨k+1,m+l.length,by omega,by go_num,by go_num,hb.alloc hbs _,hsum,by show _=_;rw[HS.out,hd.out]⟩
   case measure=>simp[intOf];omega
  ·have hkn:k=Rs.length:=by omega
   have hf:m=tot (aB Rs):=by rw[hd.out,LF (by simp;omega)]
   have HF:=Lc hf
   clear hkn hf
   go_wp2
   go_ret
   exact⟨aH (by rw[HF.out]),hb⟩
section
open Go.Maps
structure OwnRs (w:World) (B0:Nat) (B:Option Addr) (c:Nat) (Rs:List Rm):Prop where
 row:w.ownsRow B0 145 1 (.slice B Rs.length c) Rs.length (Rs.map Rm.v)
 ent:∀r∈Rs,w.ownsRow B0 183 3 r.v r.l.length (r.l.flatMap Ent.cells)
theorem J7 {w:World} {B0:Nat} {r:Rm} (h:w.ownsRow B0 183 3 r.v r.l.length (r.l.flatMap Ent.cells)):r.Ok w:=by
 obtain⟨A3,c3,h3,h4,h5⟩:=ak h
 obtain⟨ls,As,cs⟩:=r
 have h6:As=A3/\cs=c3:=by simpa[Rm.v]using h3
 obtain⟨rfl,rfl⟩:=h6
 exact⟨aA h,h4,h5⟩
theorem OwnRs.runsAt {w:World} {B0:Nat} {B:Option Addr} {c:Nat} {Rs:List Rm} (h:OwnRs w B0 B c Rs):RunsAt w B Rs:=⟨aA h.row,fun r hr=>J7 (h.ent r hr)⟩
theorem OwnRs.nil (w:World) (B0:Nat):OwnRs w B0 none 0 []:=⟨L6 _ _ _ _,by simp⟩
theorem OwnRs.below {w w':World} {B0:Nat} {B:Option Addr} {c:Nat} {Rs:List Rm} (h:OwnRs w B0 B c Rs) (hb:Below w.heap.size w w'):OwnRs w' B0 B c Rs:=
 ⟨own_below h.row hb,fun r hr=>own_below (h.ent r hr) hb⟩
theorem OwnRs.mono {w:World} {B0 B1:Nat} {B:Option Addr} {c:Nat} {Rs:List Rm} (h:OwnRs w B0 B c Rs) (hb:B1<=B0):OwnRs w B1 B c Rs:=
 ⟨ay h.row hb,fun r hr=>ay (h.ent r hr) hb⟩
theorem OwnRs.alloc {w:World} {B0:Nat} {B:Option Addr} {c:Nat} {Rs:List Rm} (h:OwnRs w B0 B c Rs) (o:Obj):OwnRs (w.alloc o) B0 B c Rs:=
 ⟨h.row.alloc o,fun r hr=>(h.ent r hr).alloc o⟩
theorem yY {w:World} {g B s n:Nat} {t e:TypeId} {cur:Array Value} {v:Value} {xs:List Value} (hB:Blk w g t cur) (h:w.ownsRow B e s v n xs) (hne:e≠t) (i:Nat) (u:Value):(w.setCell ⟨g,i,none⟩ u).ownsRow B e s v n xs:=by
 refine⟨h.1,?_⟩
 rcases h.2 with h2|⟨k,cap,cur',rfl,hg,hh,r⟩
 ·exact .inl h2
 ·refine .inr ⟨k,cap,cur',rfl,hg,?_,r⟩
  refine(Below.heap_setCell w ⟨g,i,none⟩ u k ?_).trans hh
  intro e2
  have e3:k=g:=e2
  subst e3
  have:=hB.symm.trans hh
  simp at this
  exact hne this.2.symm
theorem OwnRs.setT {w:World} {B0 g:Nat} {B:Option Addr} {c:Nat} {Rs:List Rm} {t:TypeId} {cur:Array Value} (h:OwnRs w B0 B c Rs) (hB:Blk w g t cur) (h1:145≠t) (h2:183≠t) (i:Nat) (u:Value):OwnRs (w.setCell ⟨g,i,none⟩ u) B0 B c Rs:=
 ⟨yY hB h.row h1 i u,fun r hr=>yY hB (h.ent r hr) h2 i u⟩
theorem OwnRs.push {w w':World} {B0:Nat} {B A':Option Addr} {c c':Nat} {Rs:List Rm} (h:OwnRs w B0 B c Rs) (r:Rm) (hr:w.ownsRow B0 183 3 r.v r.l.length (r.l.flatMap Ent.cells))
  (ho:w'.ownsRow B0 145 1 (.slice A' (Rs.length+1) c') (Rs.length+1) (Rs.map Rm.v++[r.v])) (hg:w.grownBy w' (Value.slice B Rs.length c).ownBlock):OwnRs w' B0 A' c' (Rs++[r]):=by
 refine⟨?_,?_⟩
 ·rw[List.length_append,Nb];exact ho
 ·intro s hs
  refine sK hg h.row ?_ (by decide)
  rcases List.mem_append.1 hs with hs|hs
  ·exact h.ent s hs
  ·obtain rfl:s=r:=by simpa using hs
   exact hr
def II (ls:Lv) (w:World) (r:Ending) (w':World):Prop:=∃B c Rs,r= .returned (.slice B Rs.length c)/\aB Rs=ls/\OwnRs w' w.heap.size B c Rs/\Below w.heap.size w w'
def Dg (ls:Lv) (n:Int) (w:World) (r:Ending) (w':World):Prop:=∃B c Rs,r= .returned (.agg #[.slice B Rs.length c,.int .u64 n])/\aB Rs=ls/\OwnRs w' w.heap.size B c Rs/\Below w.heap.size w w'
theorem AJ (Rs Ts:List Rm):aB (Rs++Ts)=aB Rs++aB Ts:=by unfold aB;rw[Nb]
end
section
section
variable {P:Program} (w:World)
end
theorem Blk.grown {w w':World} {g:Nat} {t:TypeId} {cs:Array Value} {row:Option Nat} (h:Blk w g t cs) (hg:w.grownBy w' row) (hne:row≠some g):Blk w' g t cs:=
 h.of (hg.block g h.lt (fun e=>hne e.symm))
theorem bD {w:World} {g g':Nat} {t t':TypeId} {cs cs':Array Value} (h:Blk w g t cs) (h':Blk w g' t' cs') (hne:t≠t'):g≠g':=by
 rintro rfl
 have:=h.symm.trans h'
 simp at this
 exact hne this.2
theorem CV {w:World} {g B s n:Nat} {t e:TypeId} {cs:Array Value} {v:Value} {xs:List Value} (h:w.ownsRow B e s v n xs) (hB:Blk w g t cs) (hne:e≠t):v.ownBlock≠some g:=by
 rcases h.2 with⟨rfl,_⟩|⟨k,cap,cur,rfl,_,hk,_⟩
 ·simp[Nt]
 ·intro e2
  have e3:k=g:=by simpa[Nt]using e2
  subst e3
  have:=hk.symm.trans hB
  simp at this
  exact hne this.2
end
theorem uD:(prog.info? 145).map (fun i=>(i.zero,i.size,i.bytes))=some (some (.agg #[.slice none 0 0]),1,24):=by kernel_rfl
theorem Ke {P:Prop} (h:P:=by
 obtain⟨te0,hI⟩:=Mr uD
 have HI:=Lc hI
 have HB:=Lc hB
 have HHR:=Lc hrs
 clear hI hB hrs
 go_enter func65,ntmps65
 go_wp2
 go_loopw [3,4] (fun v i wr=>∃(k:Nat) (Ts:List Rm) (A':Option Addr) (c':Nat),k<=Rs.length/\i= .int .i64 k/\Below w.heap.size w wr/\v= .slice A' k c'/\Hid (Ts.length=k)/\
  wr.ownsRow w.heap.size 145 1 (.slice A' k c') k (Ts.map Rm.v)/\(∀s∈Ts,wr.ownsRow w.heap.size 183 3 s.v s.l.length (s.l.flatMap Ent.cells))/\Hid (Ts.map Rm.l=(Rs.map Rm.l).take k)) (fun _ i _=>Rs.length-(intOf i).toNat)
 case atStart=>exact⟨0,[],none,0,LC _,rfl,Lg _ _,rfl,rfl,L6 _ _ _ _,by simp,rfl⟩
 case round=>
  obtain⟨k,Ts,A',c',hk,rfl,hb,rfl,hTk,hown,hS,hin⟩:=hrel
  have hbs:=hb.size
  by_cases hlt:k< Rs.length
  ·obtain⟨b,off,rfl,hbl,cp⟩:=HB.out.sl.oneB hb k hlt
   have hok:=(HB.out.ok _ (LP hlt)).below hb
   have hrl:=HHR.out _ (LP hlt)
   have hin2:(Rs.map Rm.l).take (k+1)=(Rs.map Rm.l).take k++[(Rs[k]'hlt).l]:=by
    rw[LG (by simpa using hlt)];simp
   obtain⟨r,hr⟩:∃r,Rs[k]'hlt=r:=⟨_,rfl⟩
   rw[hr]at cp hok hrl hin2
   obtain⟨l,A,cl⟩:=r
   have cp1:wr.cell? ⟨b,off+k,none⟩=some (.slice A l.length cl):=cp
   dsimp only at hrl hin2
   have hki:(0:Int)<=(k:Int):=by omega
   have hki2:(k:Int)< (Rs.length:Int):=by omega
   have HOK:=Lc hok.sl
   have HIN:=Lc hin2
   have HOW:=Lc hown
   have HSS:=Lc hS
   clear cp hr hok hin2 hown hS
   go_wp2_with fail
   refine(yo A l cl _ HOK.out hrl).mono ?_
   rintro e w1 ⟨A1,c1,rfl,ho1,hb1⟩
   have HO1:=Lc (ay (B':=w.heap.size) ho1 (by omega))
   have HOW1:=Lc (own_below HOW.out hb1)
   have hs1:=hb1.size
   clear ho1 cp1
   go_wp2_with (at_builtin;refine ag _ rfl (.tmp 11) (.tmp 17) _ rfl w.heap.size 145 te0 _ 1 24 underlying36 HI.out.1 HI.out.2.1 HI.out.2.2.1 HI.out.2.2.2 rfl (by omega) (.slice A' k c') k _ rfl (HOW1.out.alloc _) _ 1 _ [.slice A1 l.length c1] rfl (by exact cZ _ _ _) rfl (by simp[LD]) (by unfold maxLen;omega) (by omega) (by simp;omega) ?_;intro v2 w2 hown2 hg2;obtain⟨A2,q2,rfl,hle2,hmx2⟩:=ak hown2;have HO2:=Lc hown2;clear hown2)
   go_roundw
   case rel=>
    refine⟨k+1,Ts++[⟨l,A1,c1⟩],A2,q2,by omega,by go_num,?_,rfl,?_,?_,?_,?_⟩
    ·exact((aa hb hb1).alloc (by omega) _).grown hg2 (by simp;omega) (fun q hq=>(HOW1.out.lt q hq).1)
    ·show _=_
     rw[List.length_append,hTk.out];rfl
    ·rw[Nb];exact HO2.out
    ·intro s hs
     refine sK hg2 (HOW1.out.alloc _) ?_ (by decide)
     rcases List.mem_append.1 hs with hs|hs
     ·exact(own_below (HSS.out s hs) hb1).alloc _
     ·obtain rfl:s=⟨l,A1,c1⟩:=by simpa using hs
      exact HO1.out.alloc _
    ·show _=_
     rw[Nb,hin.out,HIN.out];rfl
   case measure=>simp[intOf];omega
  ·have hkn:k=Rs.length:=by omega
   have HIN:Hid (Ts.map Rm.l=Rs.map Rm.l):=by show _=_;rw[hin.out,LF (by simp;omega)]
   have HTN:Hid (Ts.length=k):=hTk
   first
    |have mz:=mk0
     clear mz
     have hO:RunsAt wr A' Ts:=by
      refine⟨aA hown,fun s hs=>?_⟩
      have h1:=hS s hs
      obtain⟨A3,c3,h3,h4,h5⟩:=ak h1
      obtain⟨ls,As,cs⟩:=s
      have h6:As=A3/\cs=c3:=by simpa[Rm.v]using h3
      obtain⟨rfl,rfl⟩:=h6
      exact⟨aA h1,h4,h5⟩
    |have mz:=mk1;clear mz;have hO:OwnRs wr w.heap.size A' c' Ts:=⟨by rw[HTN.out];exact hown,hS⟩
   have HO:=Lc hO
   clear hkn hO hown hS hin hTk
   go_wp2
   go_ret
   exact⟨A',c',Ts,by rw[HTN.out];rfl,HIN.out,HO.out,hb⟩):P:=h
theorem BK (B:Option Addr) (Rs:List Rm) (c:Nat) (w:World) (hB:RunsAt w B Rs) (hl:Rs.length<=1000000) (hrs:∀r∈Rs,r.l.length<=1000000):
  Calls prog 65 #[.slice B Rs.length c] w (II (aB Rs) w):=by
 have mk1:=()
 exact Ke
theorem KI {w:World} {g:Nat} {t:TypeId} {x0 x1:Value} (h:Blk w g t #[x0,x1]) (y0 y1:Value):Blk ((w.setCell ⟨g,0,none⟩ y0).setCell ⟨g,1,none⟩ y1) g t #[y0,y1]:=by
 have:=(h.set_ 0 y0).set_ 1 y1
 simpa using this
theorem Fb {B:Nat} {a w:World} {g:Nat} (h:Below B a w) (hg:B<=g) (y0 y1:Value):Below B a ((w.setCell ⟨g,0,none⟩ y0).setCell ⟨g,1,none⟩ y1):=
 (h.setCell (p:=⟨g,0,none⟩) hg _).setCell (p:=⟨g,1,none⟩) hg _
theorem OwnRs.set2 {w:World} {B0 g:Nat} {B:Option Addr} {c:Nat} {Rs:List Rm} {t:TypeId} {x0 x1:Value} (h:OwnRs w B0 B c Rs) (hB:Blk w g t #[x0,x1]) (h1:145≠t) (h2:183≠t) (y0 y1:Value):OwnRs ((w.setCell ⟨g,0,none⟩ y0).setCell ⟨g,1,none⟩ y1) B0 B c Rs:=
 (h.setT hB h1 h2 0 y0).setT (hB.set_ 0 y0) h1 h2 1 y1
theorem Aq (B:Option Addr) (Rs:List Rm) (c:Nat) (n:Int) (w:World) (hB:RunsAt w B Rs) (hl:Rs.length<=1000000) (hrs:∀r∈Rs,r.l.length<=1000000):
  Calls prog 52 #[.agg #[.slice B Rs.length c,.int .u64 n]] w (Dg (aB Rs) n w):=by
 obtain⟨W0,hW0⟩:∃W0,(w.alloc (.cells #[.slice B Rs.length c,.int .u64 n] 38)).alloc (.cells #[.slice none 0 0,.int .u64 0] 38)=W0:=⟨_,rfl⟩
 have hb0:Below w.heap.size w W0:=by rw[<-hW0];exact((Lg _ _).alloc (Lf _) _).alloc (by simp) _
 have b1:Blk W0 w.heap.size 38 #[.slice B Rs.length c,.int .u64 n]:=by rw[<-hW0];exact(Blk.new _ _ _).alloc _
 have b2:Blk W0 (w.heap.size+1) 38 #[.slice none 0 0,.int .u64 0]:=by
  rw[<-hW0]
  have:=Blk.new (w.alloc (.cells #[.slice B Rs.length c,.int .u64 n] 38)) 38 #[.slice none 0 0,.int .u64 0]
  rwa [Ls]at this
 have hs0:W0.heap.size=w.heap.size+2:=by rw[<-hW0];simp
 have HW0:=Lc hW0
 have HS0:=Lc hs0
 have HB:=Lc hB
 have HHR:=Lc hrs
 clear hW0 hB hrs hs0
 go_enter func52,ntmps52
 go_upto_region 1 with fail
 rw[HW0.out]
 have l1:=b1.lt
 have l2:=b2.lt
 have c10:W0.cell? ⟨w.heap.size,0,none⟩=some (.slice B Rs.length c):=b1.cell 0
 have c11:W0.cell? ⟨w.heap.size,1,none⟩=some (.int .u64 n):=b1.cell 1
 have c20:W0.cell? ⟨w.heap.size+1,0,none⟩=some (.slice none 0 0):=b2.cell 0
 have c21:W0.cell? ⟨w.heap.size+1,1,none⟩=some (.int .u64 0):=b2.cell 1
 have f20:=b2.frozen 0
 have f21:=b2.frozen 1
 go_region_with (go_at_call 65;refine(BK B Rs c _ (HB.out.below (aa hb0 (by first|exact(Lg _ _).drew|exact Lg _ _))) hl HHR.out).mono ?_;rintro e w5 ⟨A5,c5,Ts5,rfl,h51,h52,hb5⟩;have hb6:Below W0.heap.size W0 w5:=(by first|exact hb5|exact aa ((Lg _ _).drew) hb5);have d10:w5.cell? ⟨w.heap.size,0,none⟩=some (.slice B Rs.length c):=((aL hb6).1 _ _ l1).trans c10;have d11:w5.cell? ⟨w.heap.size,1,none⟩=some (.int .u64 n):=((aL hb6).1 _ _ l1).trans c11;have b25:=b2.below hb6 l2;have d20:w5.cell? ⟨w.heap.size+1,0,none⟩=some (.slice none 0 0):=b25.cell 0;have d21:w5.cell? ⟨w.heap.size+1,1,none⟩=some (.int .u64 0):=b25.cell 1;have e20:=b25.frozen 0;have e21:=b25.frozen 1;have H51:=Lc h51;have H52:=Lc h52;have H6:=Lc hb6;clear h51 h52 hb5 hb6)
 all_goals
  go_wp2_with fail
  have hbx:=KI b25 (.slice A5 Ts5.length c5) (.int .u64 n)
  have e0:=hbx.cell 0
  have e1:=hbx.cell 1
  refine Li (v:= .agg #[.slice A5 Ts5.length c5,.int .u64 n]) (by first|(simp[results,results52,go_sem,e0,e1];done)|(simp at e0 e1;simp[results,results52,go_sem,e0,e1])) rfl ?_
  exact⟨A5,c5,Ts5,rfl,H51.out,(H52.out.mono (by simp[HS0.out])).set2 b25 (by decide) (by decide) _ _,Fb (aa hb0 H6.out) (MK _) _ _⟩
theorem mG (B:Option Addr) (Rs:List Rm) (c:Nat) (n:Int) (w:World) (hB:RunsAt w B Rs) (hT:tot (aB Rs)<=1000000) (hl:Rs.length<=1000000):
  Calls prog 117 #[.agg #[.slice B Rs.length c,.int .u64 n]] w fun r w'=>r= .returned (.int .i64 (tot (aB Rs):Nat))/\Below w.heap.size w w':=by
 obtain⟨W0,hW0⟩:∃W0,w.alloc (.cells #[.slice B Rs.length c,.int .u64 n] 38)=W0:=⟨_,rfl⟩
 have hb0:Below w.heap.size w W0:=by rw[<-hW0];exact(Lg _ _).alloc (Lf _) _
 have b1:Blk W0 w.heap.size 38 #[.slice B Rs.length c,.int .u64 n]:=by rw[<-hW0];exact Blk.new _ _ _
 have c10:W0.cell? ⟨w.heap.size,0,none⟩=some (.slice B Rs.length c):=b1.cell 0
 have HW0:=Lc hW0
 have HB:=Lc (hB.below hb0)
 have HB0:=Lc hb0
 clear hW0 hB
 go_enter func117,ntmps117
 go_wp2
 rw[HW0.out]
 go_loopw [3,4] (fun a i wr=>∃k m:Nat,k<=Rs.length/\i= .int .i64 k/\a= .int .i64 m/\wr=W0/\m<=1000000/\Hid (m=tot ((aB Rs).take k))) (fun _ i _=>Rs.length-(intOf i).toNat)
 case atStart=>exact⟨0,0,LC _,rfl,rfl,rfl,by omega,rfl⟩
 case round=>
  obtain⟨k,m,hk,rfl,rfl,rfl,hm,hd⟩:=hrel
  by_cases hlt:k< Rs.length
  ·obtain⟨b,off,rfl,hbl,cp⟩:=HB.out.sl.oneB (Lg _ _) k hlt
   have hs:=jB (rs:=aB Rs) (k:=k) (by simpa using hlt)
   rw[gF hlt]at hs
   have hle:=jl (aB Rs) (k+1)
   obtain⟨r,hr⟩:∃r,Rs[k]'hlt=r:=⟨_,rfl⟩
   rw[hr]at cp hs
   obtain⟨l,A,cl⟩:=r
   have cp1:wr.cell? ⟨b,off+k,none⟩=some (.slice A l.length cl):=cp
   dsimp only at hs
   have hki:(0:Int)<=(k:Int):=by omega
   have hki2:(k:Int)< (Rs.length:Int):=by omega
   have hsum:m+l.length<=1000000:=by have:=hd.out;omega
   have hw:IntKind.i64.wrap ((m:Int)+(l.length:Int))=((m+l.length:Nat):Int):=(Lh _ (by omega)).trans (by omega)
   have HS:=Lc hs
   clear cp hr hs hle
   go_wp2
   go_roundw
   case rel=>exact⟨k+1,m+l.length,by omega,by go_num,by go_num,by first|trivial|rfl,hsum,by show _=_;rw[HS.out,hd.out]⟩
   case measure=>simp[intOf];omega
  ·have hkn:k=Rs.length:=by omega
   have hf:m=tot (aB Rs):=by rw[hd.out,LF (by simp;omega)]
   have HF:=Lc hf
   have hkf:¬(k:Int)< (Rs.length:Int):=by omega
   clear hkn hf
   go_wp2
   go_ret
   exact⟨aH (by rw[HF.out]),HB0.out⟩
theorem FO (l:List Ent):decide ((au l).length< l.length)=gL l:=by
 have h1:(au l).length=(dx l).length:=by unfold au;rw[List.length_map]
 rw[h1]
 cases hd:gL l with
 |true=>
  refine decide_eq_true ?_
  unfold gL at hd
  unfold dx
  refine Classical.byContradiction fun hn=>?_
  have h2:(l.filter (fun e=>!e.dead)).length=l.length:=Nat.le_antisymm (List.length_filter_le _ _) (by omega)
  rw[List.length_filter_eq_length_iff]at h2
  obtain⟨e,he,hx⟩:=List.any_eq_true.1 hd
  have:=h2 e he
  rw[hx]at this
  simp at this
 |false=>
  refine decide_eq_false ?_
  unfold gL at hd
  rw[List.any_eq_false]at hd
  unfold dx
  rw[List.filter_eq_self.2 (fun e he=>by have:=hd e he;simpa using this)]
  omega
theorem nL (A:Option Addr) (l:List Ent) (c:Nat) (w:World) (hA:Sl w A (l.flatMap Ent.cells)) (hn:l.length<=1099511627776):
  Calls prog 142 #[.agg #[.slice A l.length c]] w fun r w'=>r= .returned (.bool (gL l))/\Below w.heap.size w w':=by
 obtain⟨W0,hW0⟩:∃W0,w.alloc (.cells #[.slice A l.length c] 145)=W0:=⟨_,rfl⟩
 have hb0:Below w.heap.size w W0:=by rw[<-hW0];exact(Lg _ _).alloc (Lf _) _
 have b1:Blk W0 w.heap.size 145 #[.slice A l.length c]:=by rw[<-hW0];exact Blk.new _ _ _
 have HW0:=Lc hW0
 have HA:=Lc hA
 have HB0:=Lc hb0
 have hpl:Hid (decide ((au l).length< l.length)=gL l):=FO l
 have hpn:(au l).length<=l.length:=by unfold au;rw[List.length_map];exact gG l
 obtain⟨N,hN⟩:∃N,(au l).length=N:=⟨_,rfl⟩
 rw[hN]at hpl hpn
 have HN:=Lc hN
 clear hW0 hA hN
 go_enter func142,ntmps142
 go_upto_region 1 with fail
 rw[HW0.out]
 have c10:W0.cell? ⟨w.heap.size,0,none⟩=some (.slice A l.length c):=b1.cell 0
 have l1:=b1.lt
 go_region_with (go_at_call 119;refine(nY A l c _ (HA.out.below (aa HB0.out (by first|exact(Lg _ _).drew|exact Lg _ _))) hn).mono ?_;unfold dS;rw[HN.out];rintro e w5 ⟨A5,c5,rfl,h51,hb5⟩;have hb9:Below W0.heap.size W0 w5:=(by first|exact hb5|exact aa ((Lg _ _).drew) hb5);have d10:w5.cell? ⟨w.heap.size,0,none⟩=some (.slice A l.length c):=((aL hb9).1 _ _ l1).trans c10;have HB9:=Lc hb9;clear h51 hb5 hb9)
 all_goals
  go_wp2
  go_ret
  exact⟨aJ (by rw[<-hpl.out]),aa HB0.out HB9.out⟩
theorem Em (B:Option Addr) (Rs:List Rm) (c:Nat) (n:Int) (w:World) (hB:RunsAt w B Rs) (hl:Rs.length<=1000000) (hsm:∀r∈Rs,r.l.length<=65536) (hT:tot (aB Rs)<=1000000):
  Calls prog 104 #[.agg #[.slice B Rs.length c,.int .u64 n]] w (dS 55 2 (au (bJ (iD Rs))).length ((au (bJ (iD Rs))).flatMap Pr.cells) w):=by
 have hT2:(Rs.map (fun r=>r.l.length)).sum<=1000000:=by rw[<-Gh];exact hT
 have hal:(bJ (iD Rs)).length<=1099511627776:=by
  have h:=nP (iD Rs) (iD Rs).length 1000000 (by rw[oH];exact hT2)
  rw[List.take_length]at h
  omega
 obtain⟨L,hL⟩:∃L,bJ (iD Rs)=L:=⟨_,rfl⟩
 rw[hL]at hal
 have HL:=Lc hL
 have hb0:Below w.heap.size w (w.alloc (.cells #[.slice B Rs.length c,.int .u64 n] 38)):=(Lg _ _).alloc (Lf _) _
 have hcall:=fun W (hW:Below w.heap.size w W)=>Bw B Rs c 1000000 W (hB.below hW) (by omega) hsm hT2 (by omega)
 rw[hL]at hcall ⊢
 have HC:=Lc hcall
 clear hcall hL hB hsm hT hT2
 go_enter func104,ntmps104
 go_wp2_with fail
 refine(HC.out _ hb0).mono ?_
 rintro e w1 ⟨A1,c1,rfl,ho1,hb1⟩
 have HO1:=Lc ho1
 clear ho1
 go_wp2_with fail
 refine(nY A1 L c1 _ (aA HO1.out) hal).mono ?_
 rintro e w2 ⟨A2,c2,rfl,ho2,hb2⟩
 have HO2:=Lc ho2
 have hs1:=hb1.size
 have hs2:w.heap.size<=w1.heap.size:=by simp at hs1;omega
 clear ho2
 go_wp2
 go_ret
 exact⟨A2,c2,rfl,ay HO2.out hs2,aa (aa hb0 hb1) hb2⟩
theorem za (B:Option Addr) (Rs:List Rm) (c most:Nat) (n:Int) (w:World) (hB:RunsAt w B Rs) (hm:most<=1000000):
  Calls prog 49 #[.agg #[.slice B Rs.length c,.int .u64 n],.int .i64 most] w fun r w'=>∃G:Bool,r= .returned (.bool G)/\(G=false->Rs.length+tot (aB Rs)<=most)/\Below w.heap.size w w':=by
 have hb0:Below w.heap.size w (w.alloc (.cells #[.slice B Rs.length c,.int .u64 n] 38)):=(Lg _ _).alloc (Lf _) _
 have HB:=Lc hB
 clear hB
 go_enter func49,ntmps49
 go_wp2_with fail
 refine(zo B Rs c most _ (HB.out.below hb0) hm).mono ?_
 rintro e w1 ⟨G,rfl,hG,rfl⟩
 have HG:=Lc hG
 clear hG
 go_wp2
 go_ret
 exact⟨G,rfl,fun h=>by rw[Gh];exact HG.out h,hb0⟩
theorem Gr {rs:Lv} {k:Nat} (h:k< rs.length) (hb:jA rs.length k (lev rs k)=false):kG rs=false:=by
 cases hm:kG rs with
 |false=>rfl
 |true=>
  unfold kG iE at hm
  simp only[LZ,decide_eq_true_eq]at hm
  rw[hm.1.2 k h]at hb
  cases hb
theorem FM {rs:Lv} (h:ig rs=false):kG rs=false:=by unfold kG;rw[h];rfl
theorem Hw {rs:Lv} (h:ig rs=true) (h2:iE rs rs.length=true):kG rs=decide (tot rs<=65536):=by unfold kG;rw[h,h2];rfl
theorem Du (B:Option Addr) (Rs:List Rm) (c:Nat) (n:Int) (w:World) (hB:RunsAt w B Rs) (hT:tot (aB Rs)<=1000000) (hl:Rs.length<=1000000):
  Calls prog 116 #[.agg #[.slice B Rs.length c,.int .u64 n]] w fun r w'=>r= .returned (.bool (kG (aB Rs)))/\Below w.heap.size w w':=by
 obtain⟨W0,hW0⟩:∃W0,w.alloc (.cells #[.slice B Rs.length c,.int .u64 n] 38)=W0:=⟨_,rfl⟩
 have hb0:Below w.heap.size w W0:=by rw[<-hW0];exact(Lg _ _).alloc (Lf _) _
 have b1:Blk W0 w.heap.size 38 #[.slice B Rs.length c,.int .u64 n]:=by rw[<-hW0];exact Blk.new _ _ _
 have HW0:=Lc hW0
 have HB:=Lc hB
 have HB0:=Lc hb0
 clear hW0 hB
 have c10:W0.cell? ⟨w.heap.size,0,none⟩=some (.slice B Rs.length c):=b1.cell 0
 have c11:W0.cell? ⟨w.heap.size,1,none⟩=some (.int .u64 n):=b1.cell 1
 by_cases hend:ig (aB Rs)=true
 ·have hEnd:=Lc hend
  have hl17:Rs.length<=17:=by
   unfold ig at hend
   simp at hend
   exact hend.1
  go_enter func116,ntmps116
  go_upto_region 2 with fail
  rw[HW0.out]
  go_cut [25]from 9 to 25 (fun v wx=>v= .bool false/\wx=W0)
  case first=>
   have g1:¬(17:Int)< (Rs.length:Int):=by omega
   by_cases h0:Rs.length=0
   ·have g2:¬(0:Int)< (Rs.length:Int):=by omega
    clear hend h0
    go_wp2
    go_meet
    exact⟨by simp,by first|trivial|rfl⟩
   ·have g2:(0:Int)< (Rs.length:Int):=by omega
    obtain⟨j,hj⟩:∃j,Rs.length=j+1:=⟨Rs.length-1,by omega⟩
    obtain⟨b,off,rfl,hbl,cp⟩:=HB.out.sl.oneB hb0 j (by omega)
    have hne:(Rs[j]'(by omega)).l≠[]:=by
     unfold ig at hend
     rw[dw,hj]at hend
     simp at hend
     have h2:=hend.2
     rw[gF (by omega)]at h2
     exact h2
    obtain⟨r,hr⟩:∃r,Rs[j]'(by omega)=r:=⟨_,rfl⟩
    rw[hr]at cp hne
    obtain⟨l,A,cl⟩:=r
    have cp1:W0.cell? ⟨b,off+j,none⟩=some (.slice A l.length cl):=cp
    have hne2:¬l=[]:=hne
    have hl0:¬((l.length:Int)=0):=by have:=List.length_pos_iff.2 hne;dsimp only at this;omega
    have g4:IntKind.i64.wrap ((Rs.length:Int)-1)=(j:Int):=(Lh _ (by omega)).trans (by omega)
    have g5:(0:Int)<=(j:Int):=by omega
    have g6:(j:Int)< (Rs.length:Int):=by omega
    clear cp hr hne hj hend h0
    go_wp2
    go_meet
    exact⟨by simp[hne2],by first|trivial|rfl⟩
  case rest=>
  obtain⟨rfl,rfl⟩:=hcut
  clear hend c10 c11
  go_wp2
  go_loopw [4] (fun i wr=>∃k:Nat,k<=Rs.length/\i= .int .i64 k/\Below w.heap.size w wr/\Blk wr w.heap.size 38 #[.slice B Rs.length c,.int .u64 n]/\Hid (iE (aB Rs) k=true)) (fun i _=>Rs.length-(intOf i).toNat)
  case atStart=>exact⟨0,LC _,rfl,hb0,b1,by show _=_;unfold iE;simp⟩
  case round=>
   obtain⟨k,hk,rfl,hb,bX,hA⟩:=hrel
   have x10:wr.cell? ⟨w.heap.size,0,none⟩=some (.slice B Rs.length c):=bX.cell 0
   have x11:wr.cell? ⟨w.heap.size,1,none⟩=some (.int .u64 n):=bX.cell 1
   by_cases hlt:k< Rs.length
   ·obtain⟨b,off,rfl,hbl,cp⟩:=HB.out.sl.oneB hb k hlt
    have hok:=(HB.out.ok _ (LP hlt)).below hb
    have ha:=tN (aB Rs) k
    have hbad:=Gr (rs:=aB Rs) (k:=k) (by simpa using hlt)
    have hle:=Iw (aB Rs) k
    rw[gF hlt,dw]at ha hbad
    rw[gF hlt]at hle
    obtain⟨r,hr⟩:∃r,Rs[k]'hlt=r:=⟨_,rfl⟩
    rw[hr]at cp hok ha hbad hle
    obtain⟨l,A,cl⟩:=r
    have cp1:wr.cell? ⟨b,off+k,none⟩=some (.slice A l.length cl):=cp
    dsimp only at ha hbad hle
    have hbl2:b< wr.heap.size:=Nat.lt_of_lt_of_le hbl hb.size
    have hki:(0:Int)<=(k:Int):=by omega
    have hki2:(k:Int)< (Rs.length:Int):=by omega
    have hw2:IntKind.i64.wrap ((Rs.length:Int)-1)=((Rs.length-1:Nat):Int):=(Lh _ (by omega)).trans (by omega)
    obtain⟨E,hE⟩:∃E,bE l=E:=⟨_,rfl⟩
    have hOK:jA Rs.length k l=(decide (E=0)&&(decide (l=[])||decide (up l.length=k))&&(decide (k+1≠Rs.length)||!gL l)):=by unfold jA;rw[hE]
    have hE16:E=0->l.length<=65536:=by rw[<-hE];exact fun h=>(lG h).2.2
    have hll:l.length<=1000000:=by omega
    have HOKS:=Lc hok.sl
    have HA:=Lc ha
    have HBAD:=Lc hbad
    have HE:=Lc hE
    have HE16:=Lc hE16
    have HBB:=Lc hb
    have hbs:=hb.size
    have lX:=bX.lt
    clear cp hr hok ha hbad hE hE16 hle
    obtain⟨U,hU⟩:∃U,up l.length=U:=⟨_,rfl⟩
    rw[hU]at hOK
    have HU:=Lc hU
    obtain⟨DD,hDD⟩:∃DD,gL l=DD:=⟨_,rfl⟩
    rw[hDD]at hOK
    have HDD:=Lc hDD
    have HOK:=Lc hOK
    clear hU hOK hDD
    obtain⟨J,hJ⟩:∃J:Nat,Rs.length-1=J:=⟨_,rfl⟩
    rw[hJ]at hw2
    by_cases hE0:E=0
    ·have hl6:=HE16.out hE0
     have HL6:=Lc hl6
     clear hl6
     by_cases hl0':l.length=0
     ·have hnil:l=[]:=Mo hl0'
      have hl00:¬(0:Int)< (l.length:Int):=by omega
      have hDF:DD=false:=by rw[<-HDD.out,hnil];rfl
      clear hl0'
      have hK:jA Rs.length k l=true:=by rw[HOK.out];rw[hE0,hnil,hDF];simp
      have HK:=Lc hK
      clear hK
      clear hnil
      subst hDF
      subst hE0
      by_cases hkn:k=J
      ·subst hkn
       go_wp2_with fail
       refine(dF A l cl _ HOKS.out (by omega)).mono ?_
       rw[HE.out]
       rintro e w1 ⟨rfl,hb1⟩
       have y10:w1.cell? ⟨w.heap.size,0,none⟩=some (.slice (some ⟨b,off,none⟩) Rs.length c):=(bX.below hb1 lX).cell 0
       have y11:w1.cell? ⟨w.heap.size,1,none⟩=some (.int .u64 n):=(bX.below hb1 lX).cell 1
       have yp1:w1.cell? ⟨b,off+k,none⟩=some (.slice A l.length cl):=((aL hb1).1 _ _ hbl2).trans cp1
       have bY:=bX.below hb1 lX
       have HB1:=Lc (aa HBB.out hb1)
       go_wp2_with fail
       refine(nL A l cl _ (HOKS.out.below hb1) (by omega)).mono ?_
       rw[HDD.out]
       rintro e w3 ⟨rfl,hb3⟩
       have bZ:=bY.below hb3 bY.lt
       have HB3:=Lc (aa HB1.out hb3)
       go_wp2
       go_roundw
       case rel=>exact⟨k+1,by omega,by go_num,HB3.out,bZ,by show _=_;rw[HA.out,hA.out,HK.out];rfl⟩
       case measure=>simp[intOf];omega
      ·go_wp2_with fail
       refine(dF A l cl _ HOKS.out (by omega)).mono ?_
       rw[HE.out]
       rintro e w1 ⟨rfl,hb1⟩
       have y10:w1.cell? ⟨w.heap.size,0,none⟩=some (.slice (some ⟨b,off,none⟩) Rs.length c):=(bX.below hb1 lX).cell 0
       have y11:w1.cell? ⟨w.heap.size,1,none⟩=some (.int .u64 n):=(bX.below hb1 lX).cell 1
       have yp1:w1.cell? ⟨b,off+k,none⟩=some (.slice A l.length cl):=((aL hb1).1 _ _ hbl2).trans cp1
       have bY:=bX.below hb1 lX
       have HB1:=Lc (aa HBB.out hb1)
       go_wp2
       go_roundw
       case rel=>exact⟨k+1,by omega,by go_num,HB1.out,bY,by show _=_;rw[HA.out,hA.out,HK.out];rfl⟩
       case measure=>simp[intOf];omega
     ·have hl0:0< l.length:=by omega
      have hne:¬l=[]:=List.length_pos_iff.1 hl0
      have hl00:(0:Int)< (l.length:Int):=by omega
      have HL0:=Lc hl0
      clear hl0 hl0'
      by_cases hu:U=k
      ·by_cases hkn:k=J
       ·cases DD
        ·have hK:jA Rs.length k l=true:=by rw[HOK.out];rw[hE0];simp[hu]
         have HK:=Lc hK
         clear hK
         subst hkn
         subst hu
         subst hE0
         go_wp2_with fail
         refine(dF A l cl _ HOKS.out (by omega)).mono ?_
         rw[HE.out]
         rintro e w1 ⟨rfl,hb1⟩
         have y10:w1.cell? ⟨w.heap.size,0,none⟩=some (.slice (some ⟨b,off,none⟩) Rs.length c):=(bX.below hb1 lX).cell 0
         have y11:w1.cell? ⟨w.heap.size,1,none⟩=some (.int .u64 n):=(bX.below hb1 lX).cell 1
         have yp1:w1.cell? ⟨b,off+U,none⟩=some (.slice A l.length cl):=((aL hb1).1 _ _ hbl2).trans cp1
         have bY:=bX.below hb1 lX
         have HB1:=Lc (aa HBB.out hb1)
         go_wp2_with fail
         refine(nS l.length _ HL0.out HL6.out).mono ?_
         rw[HU.out]
         rintro e w2 ⟨rfl,rfl⟩
         go_wp2_with fail
         refine(nL A l cl _ (HOKS.out.below hb1) (by omega)).mono ?_
         rw[HDD.out]
         rintro e w3 ⟨rfl,hb3⟩
         have bZ:=bY.below hb3 bY.lt
         have HB3:=Lc (aa HB1.out hb3)
         go_wp2
         go_roundw
         case rel=>exact⟨U+1,by omega,by go_num,HB3.out,bZ,by show _=_;rw[HA.out,hA.out,HK.out];rfl⟩
         case measure=>simp[intOf];omega
        ·have hK:jA Rs.length k l=false:=by rw[HOK.out];rw[hE0];simp;omega
         have HK:=Lc hK
         clear hK
         subst hkn
         subst hu
         subst hE0
         go_wp2_with fail
         refine(dF A l cl _ HOKS.out (by omega)).mono ?_
         rw[HE.out]
         rintro e w1 ⟨rfl,hb1⟩
         have y10:w1.cell? ⟨w.heap.size,0,none⟩=some (.slice (some ⟨b,off,none⟩) Rs.length c):=(bX.below hb1 lX).cell 0
         have y11:w1.cell? ⟨w.heap.size,1,none⟩=some (.int .u64 n):=(bX.below hb1 lX).cell 1
         have yp1:w1.cell? ⟨b,off+U,none⟩=some (.slice A l.length cl):=((aL hb1).1 _ _ hbl2).trans cp1
         have bY:=bX.below hb1 lX
         have HB1:=Lc (aa HBB.out hb1)
         go_wp2_with fail
         refine(nS l.length _ HL0.out HL6.out).mono ?_
         rw[HU.out]
         rintro e w2 ⟨rfl,rfl⟩
         go_wp2_with fail
         refine(nL A l cl _ (HOKS.out.below hb1) (by omega)).mono ?_
         rw[HDD.out]
         rintro e w3 ⟨rfl,hb3⟩
         have bZ:=bY.below hb3 bY.lt
         have HB3:=Lc (aa HB1.out hb3)
         go_wp2
         go_ret
         exact⟨aJ (HBAD.out HK.out).symm,HB3.out⟩
       ·have hK:jA Rs.length k l=true:=by rw[HOK.out];rw[hE0];simp[hu];omega
        have HK:=Lc hK
        clear hK
        subst hu
        subst hE0
        go_wp2_with fail
        refine(dF A l cl _ HOKS.out (by omega)).mono ?_
        rw[HE.out]
        rintro e w1 ⟨rfl,hb1⟩
        have y10:w1.cell? ⟨w.heap.size,0,none⟩=some (.slice (some ⟨b,off,none⟩) Rs.length c):=(bX.below hb1 lX).cell 0
        have y11:w1.cell? ⟨w.heap.size,1,none⟩=some (.int .u64 n):=(bX.below hb1 lX).cell 1
        have yp1:w1.cell? ⟨b,off+U,none⟩=some (.slice A l.length cl):=((aL hb1).1 _ _ hbl2).trans cp1
        have bY:=bX.below hb1 lX
        have HB1:=Lc (aa HBB.out hb1)
        go_wp2_with fail
        refine(nS l.length _ HL0.out HL6.out).mono ?_
        rw[HU.out]
        rintro e w2 ⟨rfl,rfl⟩
        go_wp2
        go_roundw
        case rel=>exact⟨U+1,by omega,by go_num,HB1.out,bY,by show _=_;rw[HA.out,hA.out,HK.out];rfl⟩
        case measure=>simp[intOf];omega
      ·have hK:jA Rs.length k l=false:=by rw[HOK.out];rw[hE0];simp[hu,hne]
       have HK:=Lc hK
       clear hK
       subst hE0
       go_wp2_with fail
       refine(dF A l cl _ HOKS.out (by omega)).mono ?_
       rw[HE.out]
       rintro e w1 ⟨rfl,hb1⟩
       have y10:w1.cell? ⟨w.heap.size,0,none⟩=some (.slice (some ⟨b,off,none⟩) Rs.length c):=(bX.below hb1 lX).cell 0
       have y11:w1.cell? ⟨w.heap.size,1,none⟩=some (.int .u64 n):=(bX.below hb1 lX).cell 1
       have yp1:w1.cell? ⟨b,off+k,none⟩=some (.slice A l.length cl):=((aL hb1).1 _ _ hbl2).trans cp1
       have bY:=bX.below hb1 lX
       have HB1:=Lc (aa HBB.out hb1)
       go_wp2_with fail
       refine(nS l.length _ HL0.out HL6.out).mono ?_
       rw[HU.out]
       rintro e w2 ⟨rfl,rfl⟩
       go_wp2
       go_ret
       exact⟨aJ (HBAD.out HK.out).symm,HB1.out⟩
    ·have hK:jA Rs.length k l=false:=by rw[HOK.out];simp[hE0]
     have HK:=Lc hK
     clear hK
     go_wp2_with fail
     refine(dF A l cl _ HOKS.out (by omega)).mono ?_
     rw[HE.out]
     rintro e w1 ⟨rfl,hb1⟩
     have y10:w1.cell? ⟨w.heap.size,0,none⟩=some (.slice (some ⟨b,off,none⟩) Rs.length c):=(bX.below hb1 lX).cell 0
     have y11:w1.cell? ⟨w.heap.size,1,none⟩=some (.int .u64 n):=(bX.below hb1 lX).cell 1
     have yp1:w1.cell? ⟨b,off+k,none⟩=some (.slice A l.length cl):=((aL hb1).1 _ _ hbl2).trans cp1
     have bY:=bX.below hb1 lX
     have HB1:=Lc (aa HBB.out hb1)
     go_wp2
     go_ret
     exact⟨aJ (HBAD.out HK.out).symm,HB1.out⟩
   ·have hkn:k=Rs.length:=by omega
    have hall:iE (aB Rs) (aB Rs).length=true:=by rw[dw,<-hkn];exact hA.out
    have hfin:=Hw hEnd.out hall
    have HF:=Lc hfin
    have hkf:¬(k:Int)< (Rs.length:Int):=by omega
    have HBB:=Lc hb
    clear hfin hall hkn hb
    go_wp2_with fail
    refine(mG B Rs c n _ (HB.out.below HBB.out) hT hl).mono ?_
    rintro e w4 ⟨rfl,hb4⟩
    go_wp2
    go_ret
    exact⟨aJ (by rw[HF.out];first|rfl|(simp;omega)|(rw[decide_eq_decide];omega)),aa HBB.out hb4⟩
 ·have hE8:kG (aB Rs)=false:=FM (by simpa using hend)
  have HE8:=Lc hE8
  clear hE8
  by_cases h17:17< Rs.length
  ·have g1:(17:Int)< (Rs.length:Int):=by omega
   clear hend
   go_enter func116,ntmps116
   go_wp2
   go_ret
   exact⟨aJ HE8.out.symm,by first|exact HB0.out|(have:=HB0.out;rw[<-HW0.out]at this;exact this)⟩
  ·have g1:¬(17:Int)< (Rs.length:Int):=by omega
   have h0:Rs.length≠0:=by
    intro h0
    apply hend
    unfold ig
    rw[dw,h0];rfl
   have g2:(0:Int)< (Rs.length:Int):=by omega
   obtain⟨j,hj⟩:∃j,Rs.length=j+1:=⟨Rs.length-1,by omega⟩
   obtain⟨b,off,rfl,hbl,cp⟩:=HB.out.sl.oneB (Lg _ _) j (by omega)
   have hne:(Rs[j]'(by omega)).l=[]:=by
    refine Classical.byContradiction fun hx=>hend ?_
    unfold ig
    rw[dw,hj,Nat.add_sub_cancel,gF (by omega)]
    simp[hx]
    omega
   obtain⟨r,hr⟩:∃r,Rs[j]'(by omega)=r:=⟨_,rfl⟩
   rw[hr]at cp hne
   obtain⟨l,A,cl⟩:=r
   have hnl:l=[]:=hne
   subst hnl
   have cp1:w.cell? ⟨b,off+j,none⟩=some (.slice A 0 cl):=cp
   have g4:IntKind.i64.wrap ((Rs.length:Int)-1)=(j:Int):=(Lh _ (by omega)).trans (by omega)
   have g5:(0:Int)<=(j:Int):=by omega
   have g6:(j:Int)< (Rs.length:Int):=by omega
   clear cp hr hne hj hend
   go_enter func116,ntmps116
   go_wp2
   go_ret
   exact⟨aJ HE8.out.symm,by first|exact HB0.out|(have:=HB0.out;rw[<-HW0.out]at this;exact this)⟩
section
section
variable {w W V V':World}
end
theorem vU {w:World} {B0 k:Nat} {A:Option Addr} {d:Nat} {Ts:List Rm} {o:Obj} (h:Hid (OwnRs w B0 A d Ts)) (hk:Hid (Ts.length=k)):(w.alloc o).ownsRow B0 145 1 (.slice A k d) k (Ts.map Rm.v):=by
 have:=h.out.row.alloc o
 rw[hk.out]at this
 exact this
theorem Ea (B:Option Addr) (Rs:List Rm) (c:Nat) (n:Int) (w:World) (hB:RunsAt w B Rs) (hl:Rs.length<=1000000) (hrs:∀r∈Rs,r.l.length<=1000000):
  Calls prog 111 #[.agg #[.slice B Rs.length c,.int .u64 n]] w (Dg (aB Rs) n w):=by
 obtain⟨te0,hI⟩:=Mr uD
 have HI:=Lc hI
 obtain⟨W0,hW0⟩:∃W0,((w.alloc (.cells #[.slice B Rs.length c,.int .u64 n] 38)).alloc (.cells #[.slice none 0 0,.int .u64 0] 38)).alloc (.cells #[.slice none 0 0,.int .u64 n] 38)=W0:=⟨_,rfl⟩
 have hb0:Below w.heap.size w W0:=by rw[<-hW0];exact(((Lg _ _).alloc (Lf _) _).alloc (by simp) _).alloc (by simp;omega) _
 have b20:Blk W0 (w.heap.size+1) 38 #[.slice none 0 0,.int .u64 0]:=by
  rw[<-hW0]
  have:=Blk.new (w.alloc (.cells #[.slice B Rs.length c,.int .u64 n] 38)) 38 #[.slice none 0 0,.int .u64 0]
  rw[Ls]at this
  exact this.alloc _
 have b30:Blk W0 (w.heap.size+2) 38 #[.slice none 0 0,.int .u64 n]:=by
  rw[<-hW0]
  have:=Blk.new ((w.alloc (.cells #[.slice B Rs.length c,.int .u64 n] 38)).alloc (.cells #[.slice none 0 0,.int .u64 0] 38)) 38 #[.slice none 0 0,.int .u64 n]
  rwa [Ls,Ls]at this
 have HB:=Lc hB
 have HHR:=Lc hrs
 have HW0:=Lc hW0
 clear hB hrs hI hW0
 go_enter func111,ntmps111
 go_wp2
 rw[HW0.out]
 go_loopw [12] (fun i wr=>∃(k:Nat) (Ts:List Rm) (A:Option Addr) (d:Nat),k<=Rs.length/\i= .int .i64 k/\Below w.heap.size w wr/\Blk wr (w.heap.size+1) 38 #[.slice none 0 0,.int .u64 0]/\Blk wr (w.heap.size+2) 38 #[.slice A k d,.int .u64 n]/\
   Hid (OwnRs wr w.heap.size A d Ts/\aB Ts=(aB Rs).take k/\Ts.length=k)) (fun i _=>Rs.length-(intOf i).toNat)
 case atStart=>exact⟨0,[],none,0,LC _,rfl,hb0,b20,b30,OwnRs.nil _ _,rfl,rfl⟩
 case round=>
  obtain⟨k,Ts,A,d,hk,rfl,hb,b2,b3,hH⟩:=hrel
  have hbs:=hb.size
  have c30:wr.cell? ⟨w.heap.size+1+1,0,none⟩=some (.slice A k d):=b3.cell 0
  have c31:wr.cell? ⟨w.heap.size+1+1,1,none⟩=some (.int .u64 n):=b3.cell 1
  have f30:=b3.frozen 0
  have l3:=b3.lt
  by_cases hlt:k< Rs.length
  ·obtain⟨b,off,rfl,hbl,cp⟩:=HB.out.sl.oneB hb k hlt
   have hok:=HB.out.ok _ (LP hlt)
   have hrl:=HHR.out _ (LP hlt)
   have hin2:(aB Rs).take (k+1)=(aB Rs).take k++[(Rs[k]'hlt).l]:=by
    rw[LG (by simpa using hlt)];simp
   obtain⟨r,hr⟩:∃r,Rs[k]'hlt=r:=⟨_,rfl⟩
   rw[hr]at cp hok hrl hin2
   obtain⟨l,Al,cl⟩:=r
   have cp1:wr.cell? ⟨b,off+k,none⟩=some (.slice Al l.length cl):=cp
   dsimp only at hrl hin2
   have hki:(0:Int)<=(k:Int):=by omega
   have hki2:(k:Int)< (Rs.length:Int):=by omega
   have HOK:=Lc hok.sl
   have HIN:=Lc hin2
   obtain⟨W1,hW1⟩:∃W1,wr.alloc (.cells #[.slice Al l.length cl] 145)=W1:=⟨_,rfl⟩
   have hb1:Below wr.heap.size wr W1:=by rw[<-hW1];exact(Lg _ _).alloc (Lf _) _
   have b51:Blk W1 wr.heap.size 145 #[.slice Al l.length cl]:=by rw[<-hW1];exact Blk.new _ _ _
   have HW1:=Lc hW1
   clear cp hr hok hin2 hW1
   go_upto_region 5 with fail
   rw[HW1.out]
   clear c30 c31 f30 cp1
   have b21:=b2.below hb1 b2.lt
   have b31:=b3.below hb1 b3.lt
   have hb01:Below w.heap.size w W1:=aa hb hb1
   have O1:Hid (OwnRs W1 w.heap.size A d Ts):=hH.out.1.below hb1
   have c50:W1.cell? ⟨wr.heap.size,0,none⟩=some (.slice Al l.length cl):=b51.cell 0
   have c30:W1.cell? ⟨w.heap.size+1+1,0,none⟩=some (.slice A k d):=b31.cell 0
   have c31:W1.cell? ⟨w.heap.size+1+1,1,none⟩=some (.int .u64 n):=b31.cell 1
   have f30:=b31.frozen 0
   have hTk:Hid (Ts.length=k):=hH.out.2.2
   have HB01:=Lc hb01
   have hwl:w.heap.size<=W1.heap.size:=hb01.size
   go_region_law (first
    |(refine dP _ (by rfl) (.tmp 17) (.tmp 20) _ (by rfl) w.heap.size 145 te0 _ 1 24 underlying36 HI.out.1 HI.out.2.1 HI.out.2.2.1 HI.out.2.2.2 rfl (by omega) (.slice A k d) k (Ts.map Rm.v) (by rfl) (vU O6 hTk) _ 1 _ [.slice A6 l.length c6] (by rfl) (by exact cZ _ _ _) rfl (by simp[LD]) (by unfold maxLen;omega) (by omega) (by simp;omega) ?_;intro v7 w7 hown7 hg7;obtain⟨A7,d7,rfl,hle7,hmx7⟩:=ak hown7;have b37:=(b36.alloc (.cells #[.slice A6 l.length c6] 145)).grown hg7 (CV (vU O6 hTk) (b36.alloc (.cells #[.slice A6 l.length c6] 145)) (by decide));have b27:=(b26.alloc (.cells #[.slice A6 l.length c6] 145)).grown hg7 (CV (vU O6 hTk) (b26.alloc (.cells #[.slice A6 l.length c6] 145)) (by decide));have c37:w7.cell? ⟨w.heap.size+1+1,0,none⟩=some (.slice A k d):=b37.cell 0;have f37:w7.frozen? ⟨w.heap.size+1+1,0,none⟩=false:=b37.frozen 0;have HO7:=Lc hown7;have HG7:=Lc hg7;clear hown7 hg7)
    |(go_simp;go_at_call 129;refine(Gm Al l cl _ (HOK.out.below (by first|exact HB01.out.drew|exact HB01.out)) hrl).mono ?_;rintro e w6 ⟨A6,c6,rfl,ho6,hb6⟩;have hb16:Below W1.heap.size W1 w6:=(by first|exact hb6|exact aa ((Lg _ _).drew) hb6);have O6:=Lc (O1.out.below hb16);have b26:=b21.below hb16 b21.lt;have b36:=b31.below hb16 b31.lt;have HO6:=Lc (ay (B':=w.heap.size) ho6 (by first|exact hwl|(simp;omega)));have HB6:=Lc hb16;have hs6:=hb16.size;have c36:w6.cell? ⟨w.heap.size+1+1,0,none⟩=some (.slice A k d):=b36.cell 0;have f36:w6.frozen? ⟨w.heap.size+1+1,0,none⟩=false:=b36.frozen 0;have l36:w.heap.size+1+1< w6.heap.size:=b36.lt;clear ho6 hb6 hb16)
    |fail "no arm")
   all_goals
    go_wp2_with fail
    go_roundw
    case rel=>
     have hb7:Below w.heap.size w w7:=((aa HB01.out HB6.out).alloc (by have:=(aa HB01.out HB6.out).size;omega) _).grown HG7.out (by have:=(aa HB01.out HB6.out).size;simp;omega) (fun q hq=>(O1.out.row.lt q (by rw[hTk.out];exact hq)).1)
     have hO7:OwnRs w7 w.heap.size A7 d7 (Ts++[⟨l,A6,c6⟩]):=OwnRs.push (O6.out.alloc (.cells #[.slice A6 l.length c6] 145)) ⟨l,A6,c6⟩ (HO6.out.alloc _) (by rw[hTk.out];exact HO7.out) (by rw[hTk.out];exact HG7.out)
     refine⟨k+1,Ts++[⟨l,A6,c6⟩],A7,d7,by omega,by go_num,hb7.setCell (p:=⟨w.heap.size+1+1,0,none⟩) (by show w.heap.size<=w.heap.size+1+1;omega) _,b27.far (p:=⟨w.heap.size+1+1,0,none⟩) (by simp) _,?_,hO7.setT b37 (by decide) (by decide) 0 _,?_,?_⟩
     ·have:=b37.set_ 0 (.slice A7 (k+1) d7)
      simpa using this
     ·rw[AJ,hH.out.2.1,HIN.out];rfl
     ·rw[List.length_append,hTk.out];rfl
    case measure=>simp[intOf];omega
  ·have hkn:k=Rs.length:=by omega
   have HF:Hid (aB Ts=aB Rs):=by
    have h:=hH.out.2.1
    rw[LF (by rw[dw];omega)]at h
    exact h
   have HTK:Hid (Ts.length=k):=hH.out.2.2
   clear hkn
   have f20:=b2.frozen 0
   have f21:=b2.frozen 1
   have c20:wr.cell? ⟨w.heap.size+1,0,none⟩=some (.slice none 0 0):=b2.cell 0
   have c21:wr.cell? ⟨w.heap.size+1,1,none⟩=some (.int .u64 0):=b2.cell 1
   go_wp2
   have hbx:=KI b2 (.slice A k d) (.int .u64 n)
   have e0:((wr.setCell ⟨w.heap.size+1,0,none⟩ (.slice A k d)).setCell ⟨w.heap.size+1,1,none⟩ (.int .u64 n)).cell? ⟨w.heap.size+1,0,none⟩=some (.slice A k d):=hbx.cell 0
   have e1:((wr.setCell ⟨w.heap.size+1,0,none⟩ (.slice A k d)).setCell ⟨w.heap.size+1,1,none⟩ (.int .u64 n)).cell? ⟨w.heap.size+1,1,none⟩=some (.int .u64 n):=hbx.cell 1
   refine Li (v:= .agg #[.slice A k d,.int .u64 n]) (by simp[results,results111,go_sem,e0,e1]) rfl ?_
   exact⟨A,d,Ts,by rw[HTK.out],HF.out,hH.out.1.set2 b2 (by decide) (by decide) _ _,Fb hb (MK _) _ _⟩
end
theorem BI (B:Option Addr) (Rs:List Rm) (c:Nat) (n:Int) (w:World) (hB:RunsAt w B Rs) (hT:tot (aB Rs)<=1000000) (hl:Rs.length<=1000000):
  Calls prog 262 #[.agg #[.slice B Rs.length c,.int .u64 n]] w fun r w'=>r= .returned (.int .i64 (fA (aB Rs)))/\Below w.heap.size w w':=by
 have hb0:Below w.heap.size w (w.alloc (.cells #[.slice B Rs.length c,.int .u64 n] 38)):=(Lg _ _).alloc (Lf _) _
 by_cases hend:ig (aB Rs)=true
 ·have hEnd:=Lc hend
  have hl17:Rs.length<=17:=by
   unfold ig at hend
   simp at hend
   exact hend.1
  go_enter func262,ntmps262
  go_upto_region 2 with fail
  go_cut [29]from 13 to 29 (fun v wx=>v= .bool false/\wx=w.alloc (.cells #[.slice B Rs.length c,.int .u64 n] 38))
  case first=>
   have g1:¬(17:Int)< (Rs.length:Int):=by omega
   by_cases h0:Rs.length=0
   ·have g2:¬(0:Int)< (Rs.length:Int):=by omega
    clear hend h0
    go_wp2
    go_meet
    exact⟨by simp,rfl⟩
   ·have g2:(0:Int)< (Rs.length:Int):=by omega
    obtain⟨j,hj⟩:∃j,Rs.length=j+1:=⟨Rs.length-1,by omega⟩
    obtain⟨b,off,rfl,hbl,cp⟩:=hB.sl.oneB hb0 j (by omega)
    have hne:(Rs[j]'(by omega)).l≠[]:=by
     unfold ig at hend
     rw[dw,hj]at hend
     simp at hend
     have h2:=hend.2
     rw[gF (by omega)]at h2
     exact h2
    obtain⟨r,hr⟩:∃r,Rs[j]'(by omega)=r:=⟨_,rfl⟩
    rw[hr]at cp hne
    obtain⟨l,A,cl⟩:=r
    have cp1:(w.alloc (.cells #[.slice (some ⟨b,off,none⟩) Rs.length c,.int .u64 n] 38)).cell? ⟨b,off+j,none⟩=some (.slice A l.length cl):=cp
    have hl0:0< l.length:=List.length_pos_iff.2 hne
    have hne2:¬l=[]:=hne
    have g4:IntKind.i64.wrap ((Rs.length:Int)-1)=(j:Int):=(Lh _ (by omega)).trans (by omega)
    have g5:(0:Int)<=(j:Int):=by omega
    have g6:(j:Int)< (Rs.length:Int):=by omega
    clear cp hr hne hj hend h0
    go_wp2
    go_meet
    exact⟨by simp[hne2],rfl⟩
  case rest=>
  obtain⟨rfl,rfl⟩:=hcut
  have HB:=Lc hB
  clear hB hend
  go_wp2
  go_loopw [4,33] (fun a i wr=>∃k m:Nat,k<=Rs.length/\i= .int .i64 k/\a= .int .i64 m/\Below w.heap.size w wr/\m<=1000000/\Hid (m=tot ((aB Rs).take k))/\Hid (iE (aB Rs) k=true)) (fun _ i _=>Rs.length-(intOf i).toNat)
  case atStart=>exact⟨0,0,LC _,rfl,rfl,hb0,by omega,rfl,by show _=_;unfold iE;simp⟩
  case round=>
   obtain⟨k,m,hk,rfl,rfl,hb,hm,hd,hA⟩:=hrel
   by_cases hlt:k< Rs.length
   ·obtain⟨b,off,rfl,hbl,cp⟩:=HB.out.sl.oneB hb k hlt
    have hok:=(HB.out.ok _ (LP hlt)).below hb
    have hs:=jB (rs:=aB Rs) (k:=k) (by simpa using hlt)
    have ha:=tN (aB Rs) k
    have hbad:=Gl (rs:=aB Rs) (k:=k) (by simpa using hlt)
    rw[gF hlt,dw]at ha hbad
    rw[gF hlt]at hs
    have hle:=jl (aB Rs) (k+1)
    obtain⟨r,hr⟩:∃r,Rs[k]'hlt=r:=⟨_,rfl⟩
    rw[hr]at cp hs hok ha hbad
    obtain⟨l,A,cl⟩:=r
    have cp1:wr.cell? ⟨b,off+k,none⟩=some (.slice A l.length cl):=cp
    dsimp only at hs ha hbad
    have hki:(0:Int)<=(k:Int):=by omega
    have hki2:(k:Int)< (Rs.length:Int):=by omega
    have hsum:m+l.length<=1000000:=by have:=hd.out;omega
    have hw:IntKind.i64.wrap ((m:Int)+(l.length:Int))=((m+l.length:Nat):Int):=(Lh _ (by omega)).trans (by omega)
    have hw2:IntKind.i64.wrap ((Rs.length:Int)-1)=((Rs.length-1:Nat):Int):=(Lh _ (by omega)).trans (by omega)
    obtain⟨E,hE⟩:∃E,bE l=E:=⟨_,rfl⟩
    obtain⟨N,hN⟩:∃N,JJ l=N:=⟨_,rfl⟩
    have hNl:N<=l.length:=by
     rw[<-hN];unfold JJ
     split
     ·exact gG l
     ·exact LC _
    have hOK:jA Rs.length k l=(decide (E=0)&&(decide (l=[])||decide (up l.length=k))&&(decide (k+1≠Rs.length)||!gL l)):=by unfold jA;rw[hE]
    have hDead:E=0->(N=l.length↔gL l=false):=by rw[<-hE,<-hN];exact Dv
    have hE16:E=0->l.length<=65536:=by rw[<-hE];exact fun h=>(lG h).2.2
    have HOKS:=Lc hok.sl
    have HS:=Lc hs
    have HA:=Lc ha
    have HBAD:=Lc hbad
    have HE:=Lc hE
    have HN:=Lc hN
    have HD:=Lc hDead
    have HE16:=Lc hE16
    have hbs:=hb.size
    have hll:l.length<=4611686018427387903:=by omega
    have hbX:Below wr.heap.size wr (wr.alloc (.cells #[.slice A l.length cl] 145)):=(Lg _ _).alloc (Lf _) _
    have hnb:wr.heap.size< (wr.alloc (.cells #[.slice A l.length cl] 145)).heap.size:=by simp
    have bX:=Blk.new wr 145 #[.slice A l.length cl]
    clear cp hr hs hle hok ha hbad hE hN hDead hE16
    obtain⟨U,hU⟩:∃U,up l.length=U:=⟨_,rfl⟩
    rw[hU]at hOK
    have HU:=Lc hU
    have HOK:=Lc hOK
    clear hU hOK
    obtain⟨J,hJ⟩:∃J:Nat,Rs.length-1=J:=⟨_,rfl⟩
    rw[hJ]at hw2
    by_cases hE0:E=0
    ·have hl6:=HE16.out hE0
     have HL6:=Lc hl6
     clear hl6
     by_cases hl0':l.length=0
     ·have hnil:l=[]:=Mo hl0'
      have hNN:N=l.length:=by omega
      have hl00:¬(0:Int)< (l.length:Int):=by omega
      clear hl0'
      have hK:jA Rs.length k l=true:=by rw[HOK.out];rw[hE0,hnil];simp[gL]
      have HK:=Lc hK
      clear hK
      clear hnil
      subst hE0
      subst hNN
      by_cases hkn:k=J
      ·subst hkn
       go_wp2_with fail
       refine(iQ A l cl _ (HOKS.out.below hbX) hll).mono ?_
       unfold je
       rw[HE.out,HN.out]
       rintro e w1 ⟨rfl,hb1⟩
       have hb2:=aa hbX hb1
       have c1:w1.cell? ⟨wr.heap.size,0,none⟩=some (.slice A l.length cl):=(bX.below hb1 bX.lt).cell 0
       go_wp2
       go_roundw
       case rel=>exact⟨k+1,m+l.length,by omega,by go_num,by go_num,aa hb hb2,hsum,by show _=_;rw[HS.out,hd.out],by show _=_;rw[HA.out,hA.out,HK.out];rfl⟩
       case measure=>simp[intOf];omega
      ·go_wp2_with fail
       refine(iQ A l cl _ (HOKS.out.below hbX) hll).mono ?_
       unfold je
       rw[HE.out,HN.out]
       rintro e w1 ⟨rfl,hb1⟩
       have hb2:=aa hbX hb1
       have c1:w1.cell? ⟨wr.heap.size,0,none⟩=some (.slice A l.length cl):=(bX.below hb1 bX.lt).cell 0
       go_wp2
       go_roundw
       case rel=>exact⟨k+1,m+l.length,by omega,by go_num,by go_num,aa hb hb2,hsum,by show _=_;rw[HS.out,hd.out],by show _=_;rw[HA.out,hA.out,HK.out];rfl⟩
       case measure=>simp[intOf];omega
     ·have hl0:0< l.length:=by omega
      have hne:¬l=[]:=List.length_pos_iff.1 hl0
      have HL0:=Lc hl0
      clear hl0 hl0'
      by_cases hu:U=k
      ·by_cases hkn:k=J
       ·by_cases hNN:N=l.length
        ·have hK:jA Rs.length k l=true:=by rw[HOK.out];rw[hE0,(HD.out hE0).1 hNN];simp[hu]
         have HK:=Lc hK
         clear hK
         subst hkn
         subst hu
         subst hNN
         subst hE0
         go_wp2_with fail
         refine(iQ A l cl _ (HOKS.out.below hbX) hll).mono ?_
         unfold je
         rw[HE.out,HN.out]
         rintro e w1 ⟨rfl,hb1⟩
         have hb2:=aa hbX hb1
         have c1:w1.cell? ⟨wr.heap.size,0,none⟩=some (.slice A l.length cl):=(bX.below hb1 bX.lt).cell 0
         go_wp2_with fail
         refine(lN A l.length cl _ HL0.out HL6.out).mono ?_
         rw[HU.out]
         rintro e w2 ⟨rfl,hb3⟩
         have hb4:=aa hb2 hb3
         go_wp2
         go_roundw
         case rel=>exact⟨U+1,m+l.length,by omega,by go_num,by go_num,aa hb hb4,hsum,by show _=_;rw[HS.out,hd.out],by show _=_;rw[HA.out,hA.out,HK.out];rfl⟩
         case measure=>simp[intOf];omega
        ·have hdd:gL l=true:=by
          cases hx:gL l with
          |true=>rfl
          |false=>exact absurd ((HD.out hE0).2 hx) hNN
         have hK:jA Rs.length k l=false:=by rw[HOK.out];rw[hdd];simp;omega
         have HK:=Lc hK
         clear hK
         clear hdd
         subst hkn
         subst hu
         subst hE0
         go_wp2_with fail
         refine(iQ A l cl _ (HOKS.out.below hbX) hll).mono ?_
         unfold je
         rw[HE.out,HN.out]
         rintro e w1 ⟨rfl,hb1⟩
         have hb2:=aa hbX hb1
         have c1:w1.cell? ⟨wr.heap.size,0,none⟩=some (.slice A l.length cl):=(bX.below hb1 bX.lt).cell 0
         go_wp2_with fail
         refine(lN A l.length cl _ HL0.out HL6.out).mono ?_
         rw[HU.out]
         rintro e w2 ⟨rfl,hb3⟩
         have hb4:=aa hb2 hb3
         go_wp2
         go_ret
         exact⟨aH (HBAD.out HK.out).symm,aa hb hb4⟩
       ·have hK:jA Rs.length k l=true:=by rw[HOK.out];rw[hE0];simp[hu];omega
        have HK:=Lc hK
        clear hK
        subst hu
        subst hE0
        go_wp2_with fail
        refine(iQ A l cl _ (HOKS.out.below hbX) hll).mono ?_
        unfold je
        rw[HE.out,HN.out]
        rintro e w1 ⟨rfl,hb1⟩
        have hb2:=aa hbX hb1
        have c1:w1.cell? ⟨wr.heap.size,0,none⟩=some (.slice A l.length cl):=(bX.below hb1 bX.lt).cell 0
        go_wp2_with fail
        refine(lN A l.length cl _ HL0.out HL6.out).mono ?_
        rw[HU.out]
        rintro e w2 ⟨rfl,hb3⟩
        have hb4:=aa hb2 hb3
        go_wp2
        go_roundw
        case rel=>exact⟨U+1,m+l.length,by omega,by go_num,by go_num,aa hb hb4,hsum,by show _=_;rw[HS.out,hd.out],by show _=_;rw[HA.out,hA.out,HK.out];rfl⟩
        case measure=>simp[intOf];omega
      ·have hK:jA Rs.length k l=false:=by rw[HOK.out];rw[hE0];simp[hu,hne]
       have HK:=Lc hK
       clear hK
       subst hE0
       go_wp2_with fail
       refine(iQ A l cl _ (HOKS.out.below hbX) hll).mono ?_
       unfold je
       rw[HE.out,HN.out]
       rintro e w1 ⟨rfl,hb1⟩
       have hb2:=aa hbX hb1
       have c1:w1.cell? ⟨wr.heap.size,0,none⟩=some (.slice A l.length cl):=(bX.below hb1 bX.lt).cell 0
       go_wp2_with fail
       refine(lN A l.length cl _ HL0.out HL6.out).mono ?_
       rw[HU.out]
       rintro e w2 ⟨rfl,hb3⟩
       have hb4:=aa hb2 hb3
       go_wp2
       go_ret
       exact⟨aH (HBAD.out HK.out).symm,aa hb hb4⟩
    ·have hK:jA Rs.length k l=false:=by rw[HOK.out];simp[hE0]
     have HK:=Lc hK
     clear hK
     go_wp2_with fail
     refine(iQ A l cl _ (HOKS.out.below hbX) hll).mono ?_
     unfold je
     rw[HE.out,HN.out]
     rintro e w1 ⟨rfl,hb1⟩
     have hb2:=aa hbX hb1
     have c1:w1.cell? ⟨wr.heap.size,0,none⟩=some (.slice A l.length cl):=(bX.below hb1 bX.lt).cell 0
     go_wp2
     go_ret
     exact⟨aH (HBAD.out HK.out).symm,aa hb hb2⟩
   ·have hkn:k=Rs.length:=by omega
    have hf:m=tot (aB Rs):=by rw[hd.out,LF (by simp;omega)]
    have hall:iE (aB Rs) (aB Rs).length=true:=by rw[dw,<-hkn];exact hA.out
    have hfin:=FE hEnd.out hall
    rw[<-hf]at hfin
    have HF:=Lc hfin
    clear hfin hall hf hkn
    by_cases hbig:65536< m
    ·have g1:(65536:Int)< (m:Int):=by omega
     go_wp2
     go_ret
     exact⟨aH (by rw[HF.out,if_pos hbig]),hb⟩
    ·have g1:¬(65536:Int)< (m:Int):=by omega
     go_wp2
     go_ret
     exact⟨aH (by rw[HF.out,if_neg hbig]),hb⟩
 ·have hE8:fA (aB Rs)=8:=GY (by simpa using hend)
  have HE8:=Lc hE8
  clear hE8
  by_cases h17:17< Rs.length
  ·have g1:(17:Int)< (Rs.length:Int):=by omega
   clear hend
   go_enter func262,ntmps262
   go_wp2
   go_ret
   exact⟨aH HE8.out.symm,hb0⟩
  ·have g1:¬(17:Int)< (Rs.length:Int):=by omega
   have h0:Rs.length≠0:=by
    intro h0
    apply hend
    unfold ig
    rw[dw,h0];rfl
   have g2:(0:Int)< (Rs.length:Int):=by omega
   obtain⟨j,hj⟩:∃j,Rs.length=j+1:=⟨Rs.length-1,by omega⟩
   obtain⟨b,off,rfl,hbl,cp⟩:=hB.sl.oneB hb0 j (by omega)
   have hne:(Rs[j]'(by omega)).l=[]:=by
    refine Classical.byContradiction fun hx=>hend ?_
    unfold ig
    rw[dw,hj,Nat.add_sub_cancel,gF (by omega)]
    simp[hx]
    omega
   obtain⟨r,hr⟩:∃r,Rs[j]'(by omega)=r:=⟨_,rfl⟩
   rw[hr]at cp hne
   obtain⟨l,A,cl⟩:=r
   have hnl:l=[]:=hne
   subst hnl
   have cp1:(w.alloc (.cells #[.slice (some ⟨b,off,none⟩) Rs.length c,.int .u64 n] 38)).cell? ⟨b,off+j,none⟩=some (.slice A 0 cl):=cp
   have g4:IntKind.i64.wrap ((Rs.length:Int)-1)=(j:Int):=(Lh _ (by omega)).trans (by omega)
   have g5:(0:Int)<=(j:Int):=by omega
   have g6:(j:Int)< (Rs.length:Int):=by omega
   clear cp hr hne hj hend
   go_enter func262,ntmps262
   go_wp2
   go_ret
   exact⟨aH HE8.out.symm,hb0⟩
theorem xz (rs:Lv):fA rs=if kG rs=true then 0 else 8:=rfl
theorem Gc {rs:Lv} (h:May rs):RisE (pE rs):=xg (qO fun x hx=>by
 obtain⟨l,hl,rfl⟩:=List.mem_map.1 hx
 obtain⟨j,_,e⟩:=rf hl
 rw[<-e]
 exact CP (h.chk j))
theorem IC {rs:Lv} (h:¬fA rs=0):jW rs=[]:=by unfold jW;rw[if_neg h]
end Go.Proofs.YtpbmbjjfdpkhbaaGreat
