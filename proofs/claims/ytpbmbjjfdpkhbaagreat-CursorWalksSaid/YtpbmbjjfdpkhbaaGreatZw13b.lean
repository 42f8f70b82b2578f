/- part of the proof -/
import Derived.Test.YtpbmbjjfdpkhbaaGreatZw12
import Derived.Test.YtpbmbjjfdpkhbaaGreatZw5
import Derived.Test.YtpbmbjjfdpkhbaaGreatZw10
import Derived.Test.YtpbmbjjfdpkhbaaGreatZw4
import Derived.Deep.CutRange
import Derived.Deep.MidRow
import Derived.Test.YtpbmbjjfdpkhbaaGreatZw11
import Derived.ArgAppend
import Derived.Test.YtpbmbjjfdpkhbaaGreatZw6
import Derived.Test.YtpbmbjjfdpkhbaaGreatZw13
namespace Go.Proofs.YtpbmbjjfdpkhbaaGreat
open Go Go.RowKit
set_option linter.all false
set_option maxRecDepth 100000
set_option maxHeartbeats 32000000
open Go.Proofs.Tryz
open And renaming intro->KW
open Below renaming refl->KR
open Bool renaming false_ne_true->KP
open Go renaming all_oneCell_toArray->Ld,bodyPost_ret->KV,info_parts->LU,wpOp_step->KT,wp_load_mid->Mw
open Go.Lib renaming hid->KO
open Go.Value renaming int->LB,oneCell'->K5
open List renaming drop_eq_nil_of_le->MG,eq_nil_of_length_eq_zero->LM,flatMap_append->L9,replicate->MU,take_of_length_le->KZ
open Nat renaming le_refl->KS,le_succ->Mm,le_trans->KY,pow_le_pow_right->Lj
open Option.some renaming inj->KQ
theorem zm (c:Cfg) (s:Ss) (x:Ix) (w:World) (hs:SsAt w s) (hx:IxAt w x) (ho:SsOk s) (hp:IxOk x):Calls prog 27 #[.agg (cK c s x)] w (Cf c s x w):=by
 have mk1:=()
 exact FH
theorem nz {c:Cfg} {s:Ss} (h:fV c s=0):qp c s=0/\lU s=0:=by
 unfold fV at h
 by_cases he:qp c s=0
 ·rw[if_pos he]at h;exact⟨he,h⟩
 ·rw[if_neg he]at h;exact absurd h he
theorem jD {c:Cfg} {s:Ss} (h:fV c s=0):bF s=true:=by
 have h:=(nz h).2
 unfold lU at h
 by_cases hm:bF s=true
 ·exact hm
 ·rw[if_neg hm]at h;omega
theorem yx {c:Cfg} {s:Ss} (h:fV c s=0):Ris (bE s):=by
 have hm:=jD h
 have h:=(nz h).2
 unfold lU at h
 rw[if_pos hm]at h
 by_cases hr:Ris (bE s)
 ·exact hr
 ·rw[if_neg hr]at h;omega
def Jc (x:Ix) (s:Ss):Bool:=decide (x.lev=(nN s:Nat))&&decide (x.mx=Bq s)&&decide (x.ct=Bw s)
def fI (c:Cfg) (s:Ss) (x:Ix):Int:=if fV c s=0 then(if Jc x s=true then 0 else 8)else fV c s
theorem wS {x y:Ix} {s:Ss} (h1:y.lev=(nN s:Nat)) (h2:y.mx=Bq s) (h3:y.ct=Bw s):iE x y=Jc x s:=by unfold iE Jc;rw[h1,h2,h3]
theorem wV {y:Ix} {s:Ss} (hm:bF s=true) (ho:SsOk s) (h2:y.mx=Bq s) (h3:y.ct=Bw s):IxOk y:=by
 have htn:=r9 hm ho
 have h1:2 ^ nN s<=2 ^ 7:=Lj (by decide) htn.l7
 have hl:=gQ (nN s) 1 htn.l1
 refine⟨?_,?_⟩
 ·rw[h2];unfold Bq;rw[List.length_map,hl];omega
 ·rw[h3];unfold Bw;rw[List.length_map,hl];omega
theorem Ka (w:World) (c:Cfg) (s:Ss) (x:Ix):∃W,w.alloc (.cells (cK c s x) 35)=W/\Below w.heap.size w W/\Blk W w.heap.size 35 (cK c s x):=⟨_,rfl,(KR _ _).alloc (KS _) _,Blk.new _ _ _⟩
theorem kY {P:Prop} (h:P:=by
  iterate 10 apply Exists.intro
  refine⟨rfl,?_,?_,?_,?_,?_,?_,?_,?_,?_,?_⟩
  ·first|exact HB.out|exact aa HB.out hb1
  ·first|exact HX.out|exact fun k hk=>⟨(HX.out k hk).1,Nat.lt_of_lt_of_le (HX.out k hk).2 hb1.size⟩
  ·first|exact F0.out|exact fun _=>rfl|exact fun h=>rfl
  ·first|exact F1.out|exact fun _=>rfl|exact fun h=>rfl
  ·first|exact F2.out|exact fun _=>rfl|exact fun h=>rfl
  ·first|exact F3.out|exact fun _=>rfl|exact fun h=>rfl
  ·first|exact F4.out|exact fun _=>rfl|exact fun h=>rfl
  ·first|exact F5.out|exact fun _=>⟨rfl,Held.join (aT hh2 (fun W2 h2=>KW (KW hl1 (KW hl2 hl3)) h2)) (Mod.refl _ _) (fun k _ hx=>Nat.lt_of_lt_of_le (HX.out k hx).2 (KS _))⟩|exact fun h=>⟨rfl,z5.out.ext hb1⟩
  ·first|exact F6.out|exact fun _=>rfl|exact fun h=>rfl
  ·first|exact F7.out|exact fun _=>rfl):P:=h
theorem xx (c:Cfg) (s:Ss) (x:Ix) (w:World) (hs:SsAt w s) (hx:IxAt w x) (ho:SsOk s) (hp:IxOk x):
  Calls prog 101 #[.agg (cK c s x)] w fun r w'=>r= .returned (.int .i64 (fI c s x))/\Below w.heap.size w w':=by
 obtain⟨R,hR⟩:∃R,fI c s x=R:=⟨_,rfl⟩
 rw[hR]
 unfold fI at hR
 have h1:=fun W (h:SsAt W s)=>pG c s W h ho
 obtain⟨E,hE⟩:∃E,fV c s=E:=⟨_,rfl⟩
 obtain⟨V,hV⟩:∃V,Jc x s=V:=⟨_,rfl⟩
 rw[hE,hV]at hR
 rw[hE]at h1
 obtain⟨LV,hLV⟩:∃y:Int,((nN s:Nat):Int)=y:=⟨_,rfl⟩
 obtain⟨MX,hMX⟩:∃y,Bq s=y:=⟨_,rfl⟩
 obtain⟨CT,hCT⟩:∃y,Bw s=y:=⟨_,rfl⟩
 have hbt:E=0->∀W,SsAt W s->Calls prog 114 #[.agg s.row] W (Cr LV MX CT W):=fun he W h=>by
  rw[<-hLV,<-hMX,<-hCT]
  exact yZ s W h ho (jD (hE.trans he))
 have hsm:E=0->∀W (x2:Ix),IxAt W x->IxAt W x2->x2.lev=LV->x2.mx=MX->x2.ct=CT->Calls prog 60 #[.agg x.row,.agg x2.row] W (fun r w'=>r= .returned (.bool V)/\Below W.heap.size W w'):=fun he W x2 a1 a2 l1 l2 l3=>by
  have q:=vL (.inr rfl) x x2 W a1 a2 hp (wV (jD (hE.trans he)) ho (l2.trans hMX.symm) (l3.trans hCT.symm))
  rw[wS (l1.trans hLV.symm) (l2.trans hMX.symm) (l3.trans hCT.symm),hV]at q
  exact q
 have H1:=KO h1
 have HR:=KO hR
 have HBT0:=KO hbt
 have HSM0:=KO hsm
 obtain⟨W0,hW0,hb0,b0⟩:=Ka w c s x
 have HW0:=KO hW0
 have HB0:=KO hb0
 have HP0:=KO b0
 have HS0:=KO (hs.below hb0)
 have HI0:=KO (hx.below hb0)
 clear hW0 hb0 b0 hs hx ho hp h1 hR hE hV hLV hMX hCT hbt hsm
 go_enter func101,ntmps101
 go_upto_region 1 with fail
 rw[HW0.out]
 have rg0:W0.rangeAt w.heap.size 0 (cB c s).toList:=ae HP0.out 0 15 rfl
 try dsimp only[]
 repeat (first|refine wpList_load_mid rfl 31 (.tmp 4) rfl w.heap.size 0 rfl _ _ rg0 underlying31 rfl bK ?_|refine Mw 31 (.tmp 4) rfl w.heap.size 0 rfl _ _ rg0 underlying31 rfl bK ?_|go_values|go_skip|go_guarded|go_step|go_upon)
 clear rg0
 refine(H1.out _ HS0.out).mono ?_
 rintro e w1 ⟨rfl,hb1⟩
 have HB1:=KO (aa HB0.out hb1)
 have HP1:=KO (HP0.out.below hb1 HP0.out.lt)
 have HS1:=KO (HS0.out.below hb1)
 have HI1:=KO (HI0.out.below hb1)
 clear hb1 HB0 HP0 HS0 HI0
 by_cases he:E=0
 case neg=>
  obtain rfl:R=E:=by rw[<-HR.out,if_neg he]
  go_wp2_with fail
  go_ret
  exact⟨rfl,HB1.out⟩
 case pos=>
 subst he
 have HBT:=KO (HBT0.out rfl)
 have HSM:=KO (HSM0.out rfl)
 clear HBT0 HSM0
 go_upto_region 4 with fail
 refine aH (by kernel_rfl) (by kernel_rfl) (fun L a W=>∃(X:Nat->Prop) (t10 t11 t12 t13 t14 t15 t16 t17:Value) (x2:Ix),a=⟨#[(.agg (cK c s x)),(.pointer (some ⟨w.heap.size,0,none⟩)),(.int .i64 0),(.int .i64 0),(.pointer (some ⟨w.heap.size,0,none⟩)),(.agg (cB c s)),(.int .i64 0),(.int .i64 0),(.bool false),undef,t10,t11,t12,t13,t14,t15,t16,t17],[]⟩/\Below w1.heap.size w1 W/\(∀k,X k->w1.heap.size<=k/\k< W.heap.size)/\(L 0=true->t10= .pointer (some ⟨w.heap.size,15,none⟩))/\(L 1=true->t11= .agg #[.int .i64 x.lev,.slice x.mA x.mx.length x.mc,.slice x.cA x.ct.length x.cc])/\(L 2=true->t12= .pointer (some ⟨w.heap.size,0,none⟩))/\(L 3=true->t13= .pointer (some ⟨w.heap.size,9,none⟩))/\(L 4=true->t14= .agg s.row)/\(L 5=true->t15= .agg #[.int .i64 x2.lev,.slice x2.mA x2.mx.length x2.mc,.slice x2.cA x2.ct.length x2.cc]/\Held X (fun W=>(x2.lev=LV/\x2.mx=MX/\x2.ct=CT)/\IxAt W x2) W)/\(L 6=true->t16= .bool V)/\(L 7=true->t17= .bool (!V))) ?h0 ?hstep ?hend
 case h0=>exact⟨(fun _=>False),undef,undef,undef,undef,undef,undef,undef,undef,x,rfl,(KR _ _).drew,fun k hk=>absurd hk id,fun h=>absurd h KP,fun h=>absurd h KP,fun h=>absurd h KP,fun h=>absurd h KP,fun h=>absurd h KP,fun h=>absurd h KP,fun h=>absurd h KP,fun h=>absurd h KP⟩
 case hend=>
  rintro L a W hall ⟨X,t10,t11,t12,t13,t14,t15,t16,t17,x2,rfl,hb,hX,f0,f1,f2,f3,f4,f5,f6,f7⟩
  have z0:=f0 (hall 0 (by decide))
  have z1:=f1 (hall 1 (by decide))
  have z2:=f2 (hall 2 (by decide))
  have z3:=f3 (hall 3 (by decide))
  have z4:=f4 (hall 4 (by decide))
  have z5:=f5 (hall 5 (by decide))
  have z6:=f6 (hall 6 (by decide))
  have z7:=f7 (hall 7 (by decide))
  clear hall f0 f1 f2 f3 f4 f5 f6 f7
  have HBZ:=KO (aa HB1.out hb)
  clear z0 z1 z2 z3 z4 z5 z6 hb hX
  obtain rfl:=z7
  cases V with
  |false=>
   obtain rfl:R=8:=by rw[<-HR.out];rfl
   go_wp2_with fail
   go_ret
   exact⟨rfl,HBZ.out⟩
  |true=>
   obtain rfl:R=0:=by rw[<-HR.out];rfl
   go_wp2_with fail
   go_ret
   exact⟨rfl,HBZ.out⟩
 case hstep=>
  rintro L a W i o ho hLi hdep ⟨X,t10,t11,t12,t13,t14,t15,t16,t17,x2,rfl,hb,hX,f0,f1,f2,f3,f4,f5,f6,f7⟩
  have F0:=KO f0
  have F1:=KO f1
  have F2:=KO f2
  have F3:=KO f3
  have F4:=KO f4
  have F5:=KO f5
  have F6:=KO f6
  have F7:=KO f7
  clear f0 f1 f2 f3 f4 f5 f6 f7
  have HLi:=KO hLi
  clear hLi
  match i,ho with
  |0,ho=>
   obtain rfl:=KQ ho
   clear hdep
   have HB:=KO hb
   have HX:=KO hX
   refine KT rfl (fun K1 hK1=>?_)
   have hK:=KO hK1
   clear hK1
   go_wp2_with fail
   refine hK.out _ _ ?_;exact kY
  |1,ho=>
   obtain rfl:=KQ ho
   have hl0:=hdep ⟨0,.data⟩ (by simp) rfl
   have z0:=F0.out hl0
   obtain rfl:=z0
   clear hdep
   have HB:=KO hb
   have HX:=KO hX
   have cc:=HP1.out.below HB.out HP1.out.lt
   have q15:=cc.cell
   clear cc
   refine KT rfl (fun K1 hK1=>?_)
   have hK:=KO hK1
   clear hK1
   go_wp2_with fail
   refine hK.out _ _ ?_;exact kY
  |2,ho=>
   obtain rfl:=KQ ho
   clear hdep
   have HB:=KO hb
   have HX:=KO hX
   refine KT rfl (fun K1 hK1=>?_)
   have hK:=KO hK1
   clear hK1
   go_wp2_with fail
   refine hK.out _ _ ?_;exact kY
  |3,ho=>
   obtain rfl:=KQ ho
   have hl2:=hdep ⟨2,.data⟩ (by simp) rfl
   have z2:=F2.out hl2
   obtain rfl:=z2
   clear hdep
   have HB:=KO hb
   have HX:=KO hX
   refine KT rfl (fun K1 hK1=>?_)
   have hK:=KO hK1
   clear hK1
   go_wp2_with fail
   refine hK.out _ _ ?_;exact kY
  |4,ho=>
   obtain rfl:=KQ ho
   have hl3:=hdep ⟨3,.data⟩ (by simp) rfl
   have z3:=F3.out hl3
   obtain rfl:=z3
   clear hdep
   have HB:=KO hb
   have HX:=KO hX
   have cc:=HP1.out.below HB.out HP1.out.lt
   have q9:=cc.cell
   clear cc
   refine KT rfl (fun K1 hK1=>?_)
   have hK:=KO hK1
   clear hK1
   go_wp2_with fail
   refine hK.out _ _ ?_;exact kY
  |5,ho=>
   obtain rfl:=KQ ho
   have hl4:=hdep ⟨4,.data⟩ (by simp) rfl
   have z4:=F4.out hl4
   obtain rfl:=z4
   clear hdep
   have HB:=KO hb
   have HX:=KO hX
   refine KT rfl (fun K1 hK1=>?_)
   have hK:=KO hK1
   clear hK1
   go_wp2_with (go_at_call 114;refine(HBT.out _ (HS1.out.below HB.out)).mono ?_;rintro e1 W1 ⟨x3,rfl,hl1,hl2,hl3,hh2,hb1⟩)
   refine hK.out _ _ ?_;exact kY
  |6,ho=>
   obtain rfl:=KQ ho
   have hl1:=hdep ⟨1,.data⟩ (by simp) rfl
   have z1:=F1.out hl1
   obtain rfl:=z1
   have hl5:=hdep ⟨5,.data⟩ (by simp) rfl
   have z5:=F5.out hl5
   have zz5:=z5.2
   obtain rfl:=z5.1
   clear z5
   have z5:=KO zz5
   clear zz5
   clear hdep
   have HB:=KO hb
   have HX:=KO hX
   refine KT rfl (fun K1 hK1=>?_)
   have hK:=KO hK1
   clear hK1
   have hq:=KO z5.out.now
   go_wp2_with (go_at_call 60;refine(HSM.out _ x2 (HI1.out.below HB.out) hq.out.2 hq.out.1.1 hq.out.1.2.1 hq.out.1.2.2).mono ?_;rintro e1 W1 ⟨rfl,hb1⟩)
   refine hK.out _ _ ?_;exact kY
  |7,ho=>
   obtain rfl:=KQ ho
   have hl6:=hdep ⟨6,.data⟩ (by simp) rfl
   have z6:=F6.out hl6
   obtain rfl:=z6
   clear hdep
   have HB:=KO hb
   have HX:=KO hX
   refine KT rfl (fun K1 hK1=>?_)
   have hK:=KO hK1
   clear hK1
   go_wp2_with fail
   refine hK.out _ _ ?_;exact kY
end Go.Proofs.YtpbmbjjfdpkhbaaGreat
