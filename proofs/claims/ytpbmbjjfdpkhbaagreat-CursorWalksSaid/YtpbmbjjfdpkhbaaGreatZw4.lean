/- part of the proof -/
import Derived.Lib.SliceRun
import Derived.Test.YtpbmbjjfdpkhbaaGreatZw3
import Derived.Lib.BitFns
import Derived.Lib.Strings
import Derived.Lib.Slices
import Derived.Lib.Small
import Derived.WalkMore
import Derived.ScopeJumps
import Derived.Test.YtpbmbjjfdpkhbaaGreatZw1
import Derived.Test.YtpbmbjjfdpkhbaaGreatZw2
import Derived.Deep.CutRange
import Derived.Deep.RegionHeld3
import Derived.BigQuiet
namespace Go.Proofs.YtpbmbjjfdpkhbaaGreat
open Go Go.RowKit
set_option linter.all false
set_option maxRecDepth 100000
set_option maxHeartbeats 32000000
open Go.Proofs.Tryz
open Below renaming refl->KR
open Bool renaming and_eq_true->Lm
open Go renaming bodyPost_ret->KV,info_parts->LU
open Go.IntWalk renaming i64_in->KU
open Go.Lib renaming hid->KO
open Go.Value renaming int->LB,oneCell'->K5,ownBlock->M9
open Go.World renaming ownsRow_nil->Li,size_alloc->KX
open Int renaming natCast_ediv->M3,tdiv_eq_ediv_of_nonneg->M4,toNat_of_nonneg->LZ
open List renaming drop_eq_nil_of_le->MG,getElem_mem->Lh,map_append->MR,map_map->Nj,nil_append->LA,take_of_length_le->KZ,take_succ_eq_append_getElem->Lc
open Nat renaming div_le_self->Na,le_refl->KS,le_succ->Mm,le_trans->KY,log2->Lx,mul_le_mul->MH,pow_le_pow_right->Lj,zero_add->Mx,zero_le->K8
theorem dH (A:Option Addr) (l:List Ent) (c:Nat) (w:World) (hA:Sl w A (l.flatMap Ent.cells)) (hl:l.length<=4611686018427387903):
  Calls prog 140 #[.agg #[.slice A l.length c]] w fun r w'=>r= .returned (.int .i64 (bJ l))/\Below w.heap.size w w':=by
 have hb0:Below w.heap.size w (w.alloc (.cells #[.slice A l.length c] 145)):=(KR _ _).alloc (KS _) _
 have bX:=Blk.new w 145 #[.slice A l.length c]
 have hA':=KO hA
 by_cases h1:l.length>65536
 ·have hE:bJ l=4:=by unfold bJ bV;rw[if_pos h1];rfl
  rw[hE]
  have h1':(65536:Int)< (l.length:Int):=by omega
  go_enter func140,ntmps140
  go_wp2
  go_ret
  exact⟨rfl,hb0⟩
 ·have h1':¬(65536:Int)< (l.length:Int):=by omega
  cases h2:l.any bg
  ·have hE:bJ l=je (dx l):=by unfold bJ bV;rw[if_neg h1,h2];rfl
   rw[hE]
   have H2:=KO h2
   have HL:=KO (aG l)
   obtain⟨b,hb⟩:∃b,rises ((dx l).map Ent.key)=b:=⟨_,rfl⟩
   have HB:=KO hb
   have hR:je (dx l)=if b=true then 0 else 130:=by unfold je;rw[hb]
   rw[hR]
   go_enter func140,ntmps140
   go_wp2_with fail
   refine(pR A l c _ (hA'.out.below hb0) hl).mono ?_
   rw[H2.out]
   rintro e w1 ⟨rfl,rfl⟩
   have c0:=bX.cell 0
   go_wp2_with fail
   refine(uB A l c _ (hA'.out.below hb0) (by omega)).mono ?_
   rintro e w2 ⟨A2,c2,rfl,ho2,hb2⟩
   have hb02:=aa hb0 hb2
   have hs2:=KO (aA ho2)
   go_wp2_with fail
   rw[<-HL.out]
   refine(uo A2 (dx l) c2 _ hs2.out (by rw[HL.out];omega)).mono ?_
   rw[HB.out]
   rintro e w3 ⟨rfl,hb3⟩
   cases b
   ·go_wp2
    go_ret
    exact⟨rfl,aa hb02 hb3⟩
   ·go_wp2
    go_ret
    exact⟨rfl,aa hb02 hb3⟩
  ·have hE:bJ l=8:=by unfold bJ bV;rw[if_neg h1,h2];rfl
   rw[hE]
   have H2:=KO h2
   go_enter func140,ntmps140
   go_wp2_with fail
   refine(pR A l c _ (hA'.out.below hb0) hl).mono ?_
   rw[H2.out]
   rintro e w1 ⟨rfl,rfl⟩
   go_wp2
   go_ret
   exact⟨rfl,hb0⟩
theorem Fp:prog.stoodInHeld 55=false:=by kernel_rfl
theorem yY:prog.eqGuardType prog.depth 55=false:=by kernel_rfl
theorem II:(prog.info? 55).map (fun i=>(i.zero,i.size,i.bytes))=some (some (.agg #[.int .i64 0,.int .i64 0]),2,16):=by kernel_rfl
def JX (a b:Pr):Bool:=decide (a≠b)
theorem Bj (a b:Pr) (w:World):
  (binOp .neq 55 (.agg #[.int .i64 a.key,.int .i64 a.val]) (.agg #[.int .i64 b.key,.int .i64 b.val])).run prog w= .ok (.bool (JX a b)) w:=by
 have h1:=Fp
 have h2:=yY
 have h3:=underlying55
 obtain⟨k,v⟩:=a
 obtain⟨k',v'⟩:=b
 simp only[go_sem,h1,h3]
 simp[go_sem,JX]
 by_cases hk:k=k' <;> by_cases hv:v=v' <;> simp[hk,hv]
theorem uf (A B:Option Addr) (l m:List Pr) (c d:Nat) (w:World) (hA:Sl w A (l.flatMap Pr.cells)) (hB:Sl w B (m.flatMap Pr.cells)) (_hl:l.length<=4611686018427387903) (hm:m.length<=4611686018427387903):
  Calls prog 9 #[.slice A l.length c,.slice B m.length d] w fun r w'=>r= .returned (.bool (decide (l=m)))/\Below w.heap.size w w':=by
 by_cases hlen:l.length=m.length
 ·have hz:((l.length:Int)!=(m.length:Int))=false:=by simp[hlen]
  have hz2:(l.length:Int)<=(m.length:Int):=by omega
  have HL:=KO hlen
  clear hlen
  go_enter func9,ntmps9
  go_wp2
  go_loopw [5] (fun i wr=>∃k:Nat,k<=l.length/\i= .int .i64 k/\Below w.heap.size w wr/\Hid (l.take k=m.take k)) (fun i _=>l.length-(intOf i).toNat)
  case atStart=>exact⟨0,K8 _,rfl,KR _ _,rfl⟩
  case round=>
   obtain⟨k,hk,rfl,hb,hn⟩:=hrel
   by_cases hlt:k< l.length
   ·have hlt2:k< m.length:=by omega
    obtain⟨b,off,rfl,hbl,c1,c2⟩:=hA.prB hb k hlt
    obtain⟨b',off',rfl,hbl',d1,d2⟩:=hB.prB hb k hlt2
    have i0:(0:Int)<=(k:Int):=by omega
    have i1:(k:Int)< (l.length:Int):=by omega
    have i2:(k:Int)< (m.length:Int):=by omega
    clear hA hB
    have hne:=fun w=>Bj (l[k]'hlt) (m[k]'hlt2) w
    have hgu:=yY
    go_wp2
    go_quiet (fail)
    clear hne hgu
    go_wp2
    ·have hx:JX (l[k]'hlt) (m[k]'hlt2)=true:=by assumption
     go_ret
     refine⟨aC ?_,ay hb _⟩
     symm
     rw[decide_eq_false_iff_not]
     rintro rfl
     simp[JX]at hx
    ·have hx:JX (l[k]'hlt) (m[k]'hlt2)=false:=by assumption
     go_roundw
     case rel=>
      refine⟨k+1,by omega,by go_num,ay hb _,?_⟩
      show _=_
      rw[Lc hlt,Lc hlt2,hn.out]
      simp[JX]at hx
      rw[hx]
     case measure=>simp[intOf];omega
   ·go_wp2
    go_ret
    refine⟨aC ?_,hb⟩
    have:=hn.out
    rw[KZ (by omega),KZ (by have:=HL.out;omega)]at this
    rw[this,decide_eq_true rfl]
 ·have hz:((l.length:Int)!=(m.length:Int))=true:=by simp;omega
  have HL:=KO hlen
  clear hlen
  go_enter func9,ntmps9
  go_wp2
  go_ret
  refine⟨aC ?_,KR _ _⟩
  symm
  rw[decide_eq_false_iff_not]
  rintro rfl
  exact HL.out rfl
theorem gW (a:List Ent):aD a []=a:=by cases a <;> simp[aD]
theorem FW {x y:Ent} {a b:List Ent} (h:x.key< y.key):aD (x::a) (y::b)=x::aD a (y::b):=by rw[aD,if_pos h]
theorem ER {x y:Ent} {a b:List Ent} (h:x.key=y.key):aD (x::a) (y::b)=x::aD a b:=by rw[aD,if_neg (by omega),if_pos h]
theorem Dx {x y:Ent} {a b:List Ent} (h:y.key< x.key):aD (x::a) (y::b)=y::aD (x::a) b:=by rw[aD,if_neg (by omega),if_neg (by omega)]
theorem drop_at {l:List Ent} {i:Nat} (h:i< l.length):l.drop i=l[i]::l.drop (i+1):=(List.getElem_cons_drop h).symm
theorem EO (A B:Option Addr) (a b:List Ent) (c d:Nat) (w:World) (hA:Sl w A (a.flatMap Ent.cells)) (hB:Sl w B (b.flatMap Ent.cells)) (hl:a.length+b.length<=1099511627776):
  Calls prog 144 #[.slice A a.length c,.slice B b.length d] w (dW 183 3 (aD a b).length ((aD a b).flatMap Ent.cells) w):=by
 obtain⟨te0,hI⟩:=LU gP
 have HI:=KO hI
 clear hI
 go_enter func144,ntmps144
 go_wp2
 go_loopw [5,6,7] (fun v x y wr=>∃(o:List Ent) (i k:Nat) (Ao:Option Addr) (co:Nat),v= .slice Ao o.length co/\x= .int .i64 i/\y= .int .i64 k/\i<=a.length/\k<=b.length/\
   wr.ownsRow w.heap.size 183 3 (.slice Ao o.length co) o.length (o.flatMap Ent.cells)/\Below w.heap.size w wr/\Hid (o++aD (a.drop i) (b.drop k)=aD a b)) (fun _ x y _=>a.length+b.length-(intOf x).toNat-(intOf y).toNat)
 case atStart=>exact⟨[],0,0,none,0,rfl,rfl,rfl,K8 _,K8 _,Li _ _ _ _,KR _ _,by show _=_;simp⟩
 case round=>
  obtain⟨o,i,k,Ao,co,rfl,rfl,rfl,hi,hk,hown,hb,hrest⟩:=hrel
  have hol:o.length<=1099511627776:=by
   have h1:=congrArg List.length hrest.out
   have h2:=uE _ a b (KS _)
   rw[List.length_append]at h1
   omega
  have HOW:=KO hown
  have HB:=KO hb
  have hbs:=hb.size
  have i0:(0:Int)<=(i:Int):=by omega
  have k0:(0:Int)<=(k:Int):=by omega
  have HA:=KO hA
  have HBB:=KO hB
  clear hown hb
  by_cases hka:k=b.length
  ·have HKA:=KO hka
   have hkz:((k:Int)==(b.length:Int))=true:=by simp[hka]
   have hkd:decide ((k:Int)< (b.length:Int))=false:=decide_eq_false (by omega)
   have hkd2:decide (k< b.length)=false:=decide_eq_false (by omega)
   by_cases hia:i< a.length
   ·have hid:decide ((i:Int)< (a.length:Int))=true:=decide_eq_true (by omega)
    have hid2:decide (i< a.length)=true:=decide_eq_true hia
    have i1:(i:Int)< (a.length:Int):=by omega
    obtain⟨ba,oa,rfl,hbl,e1,e2,e3⟩:=HA.out.entB HB.out i hia
    obtain⟨x,hx⟩:∃x,a[i]'hia=x:=⟨_,rfl⟩
    rw[hx]at e1 e2 e3
    have heq:Hid ((o++[x])++aD (a.drop (i+1)) (b.drop k)=aD a b):=by
     show _=_
     have h:=hrest.out
     rw[MG (by omega:b.length<=k),gW,drop_at hia,hx]at h
     rw[MG (by omega:b.length<=k),gW,<-h]
     simp
    clear hka hx hA hB
    go_wp2_with fail
    go_quiet (fail)
    go_wp2_with fail
    go_quiet (fail)
    go_wp2_with (at_builtin;refine ag _ rfl (.tmp 60) (.tmp 65) _ rfl w.heap.size 183 te0 _ 3 24 underlying143 HI.out.1 HI.out.2.1 HI.out.2.2.1 HI.out.2.2.2 rfl (by omega) (.slice Ao o.length co) o.length _ rfl (HOW.out.alloc _) _ 1 _ [.int .i64 x.key,.int .i64 x.val,.bool x.dead] rfl (by exact df _ _ _) rfl (by simp[K5]) (by unfold maxLen;omega) (by omega) (by simp;omega) ?_;intro v2 w2 hown2 hg2;obtain⟨A2,q2,rfl,hle2,hmx2⟩:=ak hown2;have HO2:=KO hown2;clear hown2)
    go_roundw
    case rel=>
     refine⟨o++[x],i+1,k,A2,q2,by simp,by go_num,by go_num,by omega,by omega,?_,?_,heq⟩
     ·simpa[Ent.cells]using HO2.out
     ·exact((by first|exact HB.out|exact ay HB.out _|exact ay (ay HB.out _) _:Below w.heap.size w _).alloc (by simp;omega) _).grown hg2 (by simp;omega) (fun q hq=>(HOW.out.lt q hq).1)
    case measure=>simp[intOf];omega
   ·have hid:decide ((i:Int)< (a.length:Int))=false:=decide_eq_false (by omega)
    have HIA:=KO (show i=a.length by omega)
    have heq:Hid (o=aD a b):=by
     show _=_
     have h:=hrest.out
     rw[MG (by omega:b.length<=k),MG (by omega:a.length<=i),gW,List.append_nil]at h
     exact h
    clear hka
    go_wp2
    go_ret
    exact⟨Ao,co,by rw[heq.out];rfl,by rw[<-heq.out];exact HOW.out,HB.out⟩
  ·have hkb:k< b.length:=by omega
   have hkz:((k:Int)==(b.length:Int))=false:=beq_eq_false_iff_ne.2 (by omega)
   have hkd:decide ((k:Int)< (b.length:Int))=true:=decide_eq_true (by omega)
   have hkd2:decide (k< b.length)=true:=decide_eq_true hkb
   have k1:(k:Int)< (b.length:Int):=by omega
   obtain⟨bb,ob,rfl,hbl2,f1,f2,f3⟩:=HBB.out.entB HB.out k hkb
   obtain⟨y,hy⟩:∃y,b[k]'hkb=y:=⟨_,rfl⟩
   rw[hy]at f1 f2 f3
   by_cases hia:i< a.length
   ·have hid:decide ((i:Int)< (a.length:Int))=true:=decide_eq_true (by omega)
    have hid2:decide (i< a.length)=true:=decide_eq_true hia
    have i1:(i:Int)< (a.length:Int):=by omega
    obtain⟨ba,oa,rfl,hbl,e1,e2,e3⟩:=HA.out.entB HB.out i hia
    obtain⟨x,hx⟩:∃x,a[i]'hia=x:=⟨_,rfl⟩
    rw[hx]at e1 e2 e3
    have hr:=hrest.out
    rw[drop_at hia,drop_at hkb,hx,hy]at hr
    have hda:=drop_at hia
    have hdb:=drop_at hkb
    rw[hx]at hda
    rw[hy]at hdb
    rcases Int.lt_trichotomy x.key y.key with hlt|hkeq|hgt
    ·have hc1:decide (x.key<=y.key)=true:=decide_eq_true (by omega)
     have hc2:(x.key==y.key)=false:=beq_eq_false_iff_ne.2 (by omega)
     have heq:Hid ((o++[x])++aD (a.drop (i+1)) (b.drop k)=aD a b):=by
      show _=_
      rw[FW hlt]at hr
      rw[hdb,<-hr];simp
     clear hr hda hdb hx hy hA hB hka hlt
     go_wp2_with fail
     go_quiet (fail)
     go_wp2_with fail
     go_quiet (fail)
     go_wp2_with (at_builtin;refine ag _ rfl (.tmp 60) (.tmp 65) _ rfl w.heap.size 183 te0 _ 3 24 underlying143 HI.out.1 HI.out.2.1 HI.out.2.2.1 HI.out.2.2.2 rfl (by omega) (.slice Ao o.length co) o.length _ rfl (HOW.out.alloc _) _ 1 _ [.int .i64 x.key,.int .i64 x.val,.bool x.dead] rfl (by exact df _ _ _) rfl (by simp[K5]) (by unfold maxLen;omega) (by omega) (by simp;omega) ?_;intro v2 w2 hown2 hg2;obtain⟨A2,q2,rfl,hle2,hmx2⟩:=ak hown2;have HO2:=KO hown2;clear hown2)
     go_roundw
     case rel=>
      refine⟨o++[x],i+1,k,A2,q2,by simp,by go_num,by go_num,by omega,by omega,?_,?_,heq⟩
      ·simpa[Ent.cells]using HO2.out
      ·exact((by first|exact HB.out|exact ay HB.out _|exact ay (ay HB.out _) _:Below w.heap.size w _).alloc (by simp;omega) _).grown hg2 (by simp;omega) (fun q hq=>(HOW.out.lt q hq).1)
     case measure=>simp[intOf];omega
    ·have hc1:decide (x.key<=y.key)=true:=decide_eq_true (by omega)
     have hc2:(x.key==y.key)=true:=beq_iff_eq.2 hkeq
     have heq:Hid ((o++[x])++aD (a.drop (i+1)) (b.drop (k+1))=aD a b):=by
      show _=_
      rw[ER hkeq]at hr
      rw[<-hr];simp
     clear hr hda hdb hx hy hA hB hka hkeq
     go_wp2_with fail
     go_quiet (fail)
     go_wp2_with fail
     go_quiet (fail)
     go_wp2_with (at_builtin;refine ag _ rfl (.tmp 60) (.tmp 65) _ rfl w.heap.size 183 te0 _ 3 24 underlying143 HI.out.1 HI.out.2.1 HI.out.2.2.1 HI.out.2.2.2 rfl (by omega) (.slice Ao o.length co) o.length _ rfl (HOW.out.alloc _) _ 1 _ [.int .i64 x.key,.int .i64 x.val,.bool x.dead] rfl (by exact df _ _ _) rfl (by simp[K5]) (by unfold maxLen;omega) (by omega) (by simp;omega) ?_;intro v2 w2 hown2 hg2;obtain⟨A2,q2,rfl,hle2,hmx2⟩:=ak hown2;have HO2:=KO hown2;clear hown2)
     go_roundw
     case rel=>
      refine⟨o++[x],i+1,k+1,A2,q2,by simp,by go_num,by go_num,by omega,by omega,?_,?_,heq⟩
      ·simpa[Ent.cells]using HO2.out
      ·exact((by first|exact HB.out|exact ay HB.out _|exact ay (ay HB.out _) _:Below w.heap.size w _).alloc (by simp;omega) _).grown hg2 (by simp;omega) (fun q hq=>(HOW.out.lt q hq).1)
     case measure=>simp[intOf];omega
    ·have hc1:decide (x.key<=y.key)=false:=decide_eq_false (by omega)
     have heq:Hid ((o++[y])++aD (a.drop i) (b.drop (k+1))=aD a b):=by
      show _=_
      rw[Dx hgt]at hr
      rw[hda,<-hr];simp
     clear hr hda hdb hx hy hA hB hka hgt
     go_wp2_with fail
     go_quiet (fail)
     go_wp2_with (at_builtin;refine ag _ rfl (.tmp 69) (.tmp 74) _ rfl w.heap.size 183 te0 _ 3 24 underlying143 HI.out.1 HI.out.2.1 HI.out.2.2.1 HI.out.2.2.2 rfl (by omega) (.slice Ao o.length co) o.length _ rfl (HOW.out.alloc _) _ 1 _ [.int .i64 y.key,.int .i64 y.val,.bool y.dead] rfl (by exact df _ _ _) rfl (by simp[K5]) (by unfold maxLen;omega) (by omega) (by simp;omega) ?_;intro v2 w2 hown2 hg2;obtain⟨A2,q2,rfl,hle2,hmx2⟩:=ak hown2;have HO2:=KO hown2;clear hown2)
     go_roundw
     case rel=>
      refine⟨o++[y],i,k+1,A2,q2,by simp,by go_num,by go_num,by omega,by omega,?_,?_,heq⟩
      ·simpa[Ent.cells]using HO2.out
      ·exact((by first|exact HB.out|exact ay HB.out _|exact ay (ay HB.out _) _:Below w.heap.size w _).alloc (by simp;omega) _).grown hg2 (by simp;omega) (fun q hq=>(HOW.out.lt q hq).1)
     case measure=>simp[intOf];omega
   ·have hid:decide ((i:Int)< (a.length:Int))=false:=decide_eq_false (by omega)
    have hid2:decide (i< a.length)=false:=decide_eq_false hia
    have heq:Hid ((o++[y])++aD (a.drop i) (b.drop (k+1))=aD a b):=by
     show _=_
     have hr:=hrest.out
     rw[MG (by omega:a.length<=i),drop_at hkb,hy,aD]at hr
     rw[MG (by omega:a.length<=i),aD,<-hr];simp
    clear hy hA hB hka
    go_wp2_with fail
    go_quiet (fail)
    go_wp2_with (at_builtin;refine ag _ rfl (.tmp 69) (.tmp 74) _ rfl w.heap.size 183 te0 _ 3 24 underlying143 HI.out.1 HI.out.2.1 HI.out.2.2.1 HI.out.2.2.2 rfl (by omega) (.slice Ao o.length co) o.length _ rfl (HOW.out.alloc _) _ 1 _ [.int .i64 y.key,.int .i64 y.val,.bool y.dead] rfl (by exact df _ _ _) rfl (by simp[K5]) (by unfold maxLen;omega) (by omega) (by simp;omega) ?_;intro v2 w2 hown2 hg2;obtain⟨A2,q2,rfl,hle2,hmx2⟩:=ak hown2;have HO2:=KO hown2;clear hown2)
    go_roundw
    case rel=>
     refine⟨o++[y],i,k+1,A2,q2,by simp,by go_num,by go_num,by omega,by omega,?_,?_,heq⟩
     ·simpa[Ent.cells]using HO2.out
     ·exact((by first|exact HB.out|exact ay HB.out _|exact ay (ay HB.out _) _:Below w.heap.size w _).alloc (by simp;omega) _).grown hg2 (by simp;omega) (fun q hq=>(HOW.out.lt q hq).1)
    case measure=>simp[intOf];omega
def dD (l:List Ent):List Ent:=l.filter (fun e=>!e.dead)
def au (l:List Ent):List Pr:=(dD l).map (fun e=>⟨e.key,e.val⟩)
theorem lM {l:List Ent} {k:Nat} (h:k< l.length):dD (l.take (k+1))=dD (l.take k)++(if (l[k]'h).dead=true then[]else[l[k]'h]):=by
 unfold dD
 rw[Lc h,List.filter_append]
 cases hd:(l[k]'h).dead <;> simp[List.filter,hd]
theorem gF (l:List Ent):(dD l).length<=l.length:=List.length_filter_le _ _
theorem xA {l:List Ent} (h:RisE l):RisE (dD l):=List.Pairwise.filter _ h
theorem BB:(prog.info? 55).map (fun i=>(i.zero,i.size,i.bytes))=some (some (.agg #[.int .i64 0,.int .i64 0]),2,16):=by kernel_rfl
theorem om (A:Option Addr) (l:List Ent) (c:Nat) (w:World) (hA:Sl w A (l.flatMap Ent.cells)) (hn:l.length<=1099511627776):
  Calls prog 119 #[.slice A l.length c] w (dW 55 2 (au l).length ((au l).flatMap Pr.cells) w):=by
 obtain⟨i0,hi,hz0,hz1,hz2⟩:=LU BB
 go_enter func119,ntmps119
 go_wp2
 go_loopw [3,4] (fun v i wr=>∃(k:Nat) (o:List Pr) (A':Option Addr) (c':Nat),k<=l.length/\i= .int .i64 k/\Below w.heap.size w wr/\v= .slice A' o.length c'/\
   wr.ownsRow w.heap.size 55 2 (.slice A' o.length c') o.length (o.flatMap Pr.cells)/\Hid (o=au (l.take k))) (fun _ i _=>l.length-(intOf i).toNat)
 case atStart=>exact⟨0,[],none,0,K8 _,rfl,KR _ _,rfl,Li _ _ _ _,rfl⟩
 case round=>
  obtain⟨k,o,A',c',hk,rfl,hb,rfl,hown,ho⟩:=hrel
  have hbs:=hb.size
  by_cases hlt:k< l.length
  ·obtain⟨b,off,rfl,hbl,c1,c2,c3⟩:=hA.entB hb k hlt
   have hol:o.length<=k:=by rw[ho.out];unfold au;rw[List.length_map];have:=gF (l.take k);simp at this;omega
   have hki:(0:Int)<=(k:Int):=by omega
   have hki2:(k:Int)< (l.length:Int):=by omega
   have hs:=lM hlt
   obtain⟨x,hx⟩:∃x,l[k]'hlt=x:=⟨_,rfl⟩
   rw[hx]at c1 c2 c3 hs
   cases hd:x.dead
   ·rw[hd]at c3 hs
    have hnew:Hid (o++[⟨x.key,x.val⟩]=au (l.take (k+1))):=by
     show _=_
     rw[ho.out];unfold au;rw[hs];simp
    have HOW:=KO hown
    clear hd hs hx
    go_wp2_with fail
    go_region_law (
     (refine dS _ (by rfl) _ _ _ (by rfl) w.heap.size 55 i0 _ 2 16 underlying47 hi hz0 hz1 hz2 rfl (by omega) (.slice A' o.length c') o.length _ (by rfl) ((HOW.out.alloc _).drew) _ 1 _ [.int .i64 x.key,.int .i64 x.val] (by rfl) ((Blk.new wr _ _).sl 0 _ (by intro j u hu;simpa using hu)) (by rfl) (by simp[K5]) (by unfold maxLen;omega) (by omega) (by simp;omega) ?_;intro v2 w2 hown2 hg2;obtain⟨A2,z2,rfl,hle2,hmx2⟩:=ak hown2;have HO2:=KO hown2;clear hown2))
    all_goals
     go_wp2
     go_roundw
     case rel=>
      exact⟨k+1,o++[⟨x.key,x.val⟩],A2,z2,by omega,by go_num,((hb.alloc hbs _).drew).grown hg2 (by simp;omega) (fun k hk=>(HOW.out.lt k hk).1),by simp,by simpa[Pr.cells]using HO2.out,hnew⟩
     case measure=>simp[intOf];omega
   ·rw[hd]at c3 hs
    have hnew:Hid (o=au (l.take (k+1))):=by
     show _=_
     rw[ho.out];unfold au;rw[hs];simp
    clear hd hs hx
    go_wp2_with fail
    go_roundw
    case rel=>exact⟨k+1,o,A',c',by omega,by go_num,hb,rfl,hown,hnew⟩
    case measure=>simp[intOf];omega
  ·have hkn:=KO (show k=l.length by omega)
   go_wp2
   go_ret
   have h:=hown
   have ho2:=ho.out
   rw[hkn.out,KZ (KS _)]at ho2
   rw[ho2]at h ⊢
   exact⟨A',c',rfl,h,hb⟩
def bi:List (List Ent)->Int
 |[]=>0
 |r::rs=>if bJ r=0 then bi rs else bJ r
theorem oG:∀{rs:List (List Ent)},bi rs=0->∀r∈rs,bJ r=0
 |[],_,_,h=>by simp at h
 |r0::rs,h,r,hr=>by
  rw[bi]at h
  by_cases h0:bJ r0=0
  ·rw[if_pos h0]at h
   rcases List.mem_cons.1 hr with rfl|hr
   ·exact h0
   ·exact oG h r hr
  ·rw[if_neg h0]at h;exact absurd h h0
theorem xW {rs:List (List Ent)} {k:Nat} (h:k< rs.length):bi (rs.drop k)=if bJ (rs[k]'h)=0 then bi (rs.drop (k+1))else bJ (rs[k]'h):=by
 rw[<-List.getElem_cons_drop h,bi]
structure RunsAt (w:World) (B:Option Addr) (Rs:List Rm):Prop where
 sl:Sl w B (Rs.map Rm.v)
 ok:∀r∈Rs,r.Ok w
theorem Rm.Ok.below {w w':World} {r:Rm} (h:r.Ok w) (hb:Below w.heap.size w w'):r.Ok w':=⟨h.sl.below hb,h.lc,h.c⟩
theorem RunsAt.below {w w':World} {B:Option Addr} {Rs:List Rm} (h:RunsAt w B Rs) (hb:Below w.heap.size w w'):RunsAt w' B Rs:=⟨h.sl.below hb,fun r hr=>(h.ok r hr).below hb⟩
theorem nX:∀(rs:List (List Ent)) (k T:Nat),(rs.map List.length).sum<=T->(bM (rs.take k)).length+((rs.drop k).map List.length).sum<=T:=by
 intro rs k T h
 have h1:=jG (rs.take k) []
 have h2:((rs.take k).map List.length).sum+((rs.drop k).map List.length).sum=(rs.map List.length).sum:=by
  rw[<-List.sum_append,<-MR,List.take_append_drop]
 unfold bM
 rw[List.length_nil,Mx]at h1
 omega
theorem Ff {rs:List (List Ent)} {k:Nat} (h:k< rs.length):bM (rs.take (k+1))=aD (bM (rs.take k)) (rs[k]'h):=by
 unfold bM
 rw[Lc h,List.foldl_append];rfl
def iJ (Rs:List Rm):List (List Ent):=Rs.map (fun r=>dx r.l)
theorem nM (Rs:List Rm):((iJ Rs).map List.length).sum=(Rs.map (fun r=>r.l.length)).sum:=by
 unfold iJ
 rw[Nj]
 congr 1
 exact List.map_congr_left (fun r _=>aG r.l)
theorem zK (B:Option Addr) (Rs:List Rm) (c T:Nat) (w:World) (hB:RunsAt w B Rs) (hl:Rs.length<=4611686018427387903) (hsm:∀r∈Rs,r.l.length<=65536) (hT:(Rs.map (fun r=>r.l.length)).sum<=T) (hT2:T<=1099511627776):
  Calls prog 120 #[.slice B Rs.length c] w (dW 183 3 (bM (iJ Rs)).length ((bM (iJ Rs)).flatMap Ent.cells) w):=by
 rw[<-nM]at hT
 have HT:=KO hT
 clear hT
 go_enter func120,ntmps120
 go_wp2
 go_loopw [3,4] (fun v i wr=>∃(k:Nat) (o:List Ent) (A':Option Addr) (c':Nat),k<=Rs.length/\i= .int .i64 k/\Below w.heap.size w wr/\v= .slice A' o.length c'/\
   wr.ownsRow w.heap.size 183 3 (.slice A' o.length c') o.length (o.flatMap Ent.cells)/\Hid (o=bM ((iJ Rs).take k))) (fun _ i _=>Rs.length-(intOf i).toNat)
 case atStart=>exact⟨0,[],none,0,K8 _,rfl,KR _ _,rfl,Li _ _ _ _,rfl⟩
 case round=>
  obtain⟨k,o,A',c',hk,rfl,hb,rfl,hown,ho⟩:=hrel
  by_cases hlt:k< Rs.length
  ·have hlt2:k< (iJ Rs).length:=by unfold iJ;simpa using hlt
   obtain⟨b,off,rfl,hbl,cp⟩:=hB.sl.oneB hb k hlt
   have hok:=(hB.ok _ (Lh hlt)).below hb
   have hs:=Ff hlt2
   have hlen:=nX (iJ Rs) k T HT.out
   rw[List.drop_eq_getElem_cons hlt2,List.map_cons,List.sum_cons]at hlen
   have hgi:(iJ Rs)[k]'hlt2=dx (Rs[k]'hlt).l:=by simp[iJ]
   have hsmr:=hsm _ (Lh hlt)
   rw[hgi]at hs hlen
   rw[<-ho.out]at hlen hs
   obtain⟨r,hr⟩:∃r,Rs[k]'hlt=r:=⟨_,rfl⟩
   rw[hr]at cp hok hs hlen hsmr
   obtain⟨l,A,cl⟩:=r
   have cp1:wr.cell? ⟨b,off+k,none⟩=some (.slice A l.length cl):=cp
   dsimp only at hs hlen hsmr
   rw[aG]at hlen
   have hki:(0:Int)<=(k:Int):=by omega
   have hki2:(k:Int)< (Rs.length:Int):=by omega
   have HS:=KO hs
   have HOK:=KO hok.sl
   have HL:=KO (aG l)
   have HOW:=KO hown
   have hol:o.length+l.length<=1099511627776:=by omega
   clear cp hr hs hok hgi hlen hown
   go_wp2_with fail
   refine(uB A l cl _ HOK.out hsmr).mono ?_
   rintro e w1 ⟨A1,c1,rfl,ho1,hb1⟩
   have hs1:=aA ho1
   have HSO:=KO ((aA HOW.out).below hb1)
   clear ho1
   go_wp2_with fail
   rw[<-HL.out]
   refine(EO A' A1 o (dx l) c' c1 _ HSO.out hs1 (by rw[HL.out];omega)).mono ?_
   rw[<-HS.out]
   rintro e w2 ⟨A2,c2,rfl,ho2,hb2⟩
   have HO2:=KO (av (B':=w.heap.size) ho2 (KY hb.size hb1.size))
   clear ho2
   go_wp2
   go_roundw
   case rel=>exact⟨k+1,_,A2,c2,by omega,by go_num,aa hb (aa hb1 hb2),rfl,HO2.out,rfl⟩
   case measure=>simp[intOf];omega
  ·have hkn:k=Rs.length:=by omega
   have h:o=bM (iJ Rs):=by rw[ho.out,KZ (by unfold iJ;simp;omega)]
   have H:=KO h
   clear h hkn
   go_wp2
   go_ret
   exact⟨A',c',by rw[H.out];rfl,by rw[<-H.out];exact hown,hb⟩
def nE (Rs:List Rm):Int:=if bi (Rs.map Rm.l)=0 then(if (bM (iJ Rs)).length>65536 then 4 else 0)else bi (Rs.map Rm.l)
def dR (bare:Bool) (l:List Ent):List Ent:=if bare=true then dD l else l
def qx (Rs:List Rm) (bare:Bool):List Ent:=if nE Rs=0 then laid (dR bare (bM (iJ Rs)))else[]
theorem En {l:List Ent} (h:rises (l.map Ent.key)=true):RisE l:=by
 unfold rises at h
 have:=of_decide_eq_true h
 exact List.pairwise_map.1 this
theorem D7 {l:List Ent} (h:RisE l):rises (l.map Ent.key)=true:=decide_eq_true (List.pairwise_map.2 h)
theorem BS {l:List Ent} (h:bJ l=0):RisE (dx l):=En (kK h).2.1
theorem Cq {Rs:List Rm} (h:bi (Rs.map Rm.l)=0):∀r∈iJ Rs,RisE r:=by
 intro r hr
 obtain⟨q,hq,rfl⟩:=List.mem_map.1 hr
 exact BS (oG h q.l (List.mem_map.2 ⟨q,hq,rfl⟩))
theorem qB {rs:List (List Ent)} (h:∀r∈rs,RisE r):RisE (bM rs):=(nK rs RisE.nil h).1
theorem Io {rs:List (List Ent)} (h:∀r∈rs,RisE r) {e:Ent} (he:e∈bM rs):∃r∈rs,e∈r:=by
 have h1:=sI (qB h) he
 have h2:=(nK rs RisE.nil h).2 e.key
 have h3:newest rs e.key=some e:=by
  rw[<-h1]
  have:look (bM rs) e.key=(look [] e.key).or (newest rs e.key):=h2
  rw[this];simp[look]
 obtain⟨a,r,hr,her,_⟩:=mY h3
 exact⟨r,List.mem_of_getElem? hr,her⟩
theorem EW {l:List Ent} (h:bJ l=0):∀e∈l,bg e=false:=by
 have hf:=(kK h).1
 have h1:¬l.length>65536:=by have:=(kK h).2.2;omega
 have h2:l.any bg=false:=by
  cases hb:l.any bg with
  |false=>rfl
  |true=>unfold bV at hf;rw[if_neg h1,hb]at hf;cases hf
 intro e he
 have:=List.any_eq_false.1 h2 e he
 simpa using this
theorem uG {Rs:List Rm} (bare:Bool) (h:nE Rs=0):bQ (dR bare (bM (iJ Rs)))=0/\bi (Rs.map Rm.l)=0/\(bM (iJ Rs)).length<=65536:=by
 have hC:bi (Rs.map Rm.l)=0:=by
  unfold nE at h
  split at h
  ·assumption
  ·exact absurd h (by assumption)
 have hlen:(bM (iJ Rs)).length<=65536:=by
  unfold nE at h
  rw[if_pos hC]at h
  split at h
  ·cases h
  ·omega
 have hr:=Cq hC
 have hmem:∀e∈dR bare (bM (iJ Rs)),e∈bM (iJ Rs):=by
  intro e he
  unfold dR at he
  split at he
  ·exact(List.mem_filter.1 he).1
  ·exact he
 have hle:(dR bare (bM (iJ Rs))).length<=65536:=by
  unfold dR
  split
  ·have:=gF (bM (iJ Rs));omega
  ·exact hlen
 have hris:RisE (dR bare (bM (iJ Rs))):=by
  unfold dR
  split
  ·exact xA (qB hr)
  ·exact qB hr
 have hbad:(dR bare (bM (iJ Rs))).any bg=false:=by
  rw[List.any_eq_false]
  intro e he
  obtain⟨r,hrm,her⟩:=Io hr (hmem e he)
  obtain⟨q,hq,rfl⟩:=List.mem_map.1 hrm
  have:=EW (oG hC q.l (List.mem_map.2 ⟨q,hq,rfl⟩)) e (Iy her)
  simp[this]
 refine⟨?_,hC,hlen⟩
 unfold bQ
 rw[if_neg (by omega),hbad,D7 hris]
 rfl
theorem sN {w w':World} {base base' s s' n n':Nat} {e t:TypeId} {v v':Value} {xs xs':List Value} (hg:w.grownBy w' v.ownBlock) (ho:w.ownsRow base e s v n xs) (hb:w.ownsRow base' t s' v' n' xs') (hne:e≠t):w'.ownsRow base' t s' v' n' xs':=by
 refine⟨hb.1,?_⟩
 rcases hb.2 with h1|⟨g,cap,cur,h1,h2,h3,h4⟩
 ·exact .inl h1
 ·refine .inr ⟨g,cap,cur,h1,h2,?_,h4⟩
  have h5:Blk w g t cur:=h3
  refine h5.of (hg.block g h5.lt ?_)
  intro h
  rcases ho.2 with⟨rfl,_⟩|⟨k,cap,cur,rfl,_,hk,_⟩
  ·simp[M9]at h
  ·simp[M9]at h
   subst h
   have:=hk.symm.trans h3
   simp at this
   exact hne this.2
theorem Ew:(prog.info? 143).map (fun i=>(i.zero,i.size,i.bytes))=some (some (.slice none 0 0),1,24):=by kernel_rfl
theorem Ep (B:Option Addr) (Rs:List Rm) (c T:Nat) (bare:Bool) (w:World) (hB:RunsAt w B Rs) (hl:Rs.length<=1099511627775) (hrs:∀r∈Rs,r.l.length<=4611686018427387903)
  (hT:(Rs.map (fun r=>r.l.length)).sum<=T) (hT2:T<=1099511627776):
  Calls prog 263 #[.slice B Rs.length c,.bool bare] w (jL 183 (qx Rs bare) (nE Rs) w):=by
 obtain⟨te0,hI1⟩:=LU Ew
 obtain⟨ti0,hI2⟩:=LU gP
 have HI1:=KO hI1
 have HI2:=KO hI2
 clear hI1 hI2
 obtain⟨W0,hW0⟩:∃W0,w.alloc (.cells #[.slice none 0 0] 145)=W0:=⟨_,rfl⟩
 have hb0:Below w.heap.size w W0:=by rw[<-hW0];exact(KR _ _).alloc (KS _) _
 have hr0:Blk W0 w.heap.size 145 #[.slice none 0 0]:=by rw[<-hW0];exact Blk.new _ _ _
 have hs0:W0.heap.size=w.heap.size+1:=by rw[<-hW0];simp
 go_enter func263,ntmps263
 go_wp2
 try rw[hW0]
 clear hW0
 go_loopw [6,17] (fun v i wr=>∃(k:Nat) (Ss:List Rm) (A':Option Addr) (c':Nat),k<=Rs.length/\i= .int .i64 k/\Below W0.heap.size W0 wr/\v= .slice A' k c'/\Hid (Ss.length=k)/\
   wr.ownsRow W0.heap.size 143 1 (.slice A' k c') k (Ss.map Rm.v)/\(∀s∈Ss,wr.ownsRow W0.heap.size 183 3 s.v s.l.length (s.l.flatMap Ent.cells))/\
   Hid (Ss.map Rm.l=(iJ Rs).take k)/\Hid (bi ((Rs.map Rm.l).drop k)=bi (Rs.map Rm.l))) (fun _ i _=>Rs.length-(intOf i).toNat)
 case atStart=>exact⟨0,[],none,0,K8 _,rfl,KR _ _,rfl,rfl,Li _ _ _ _,by simp,rfl,rfl⟩
 case round=>
  obtain⟨k,Ss,A',c',hk,rfl,hb,rfl,hSk,hown,hS,hin,hd⟩:=hrel
  have hbw:Below w.heap.size w wr:=aa hb0 hb
  by_cases hlt:k< Rs.length
  ·obtain⟨b,off,rfl,hbl,cp⟩:=hB.sl.oneB hbw k hlt
   have hok:=(hB.ok _ (Lh hlt)).below hbw
   have hs:=xW (rs:=Rs.map Rm.l) (k:=k) (by simpa using hlt)
   rw[List.getElem_map]at hs
   have hrl:=hrs _ (Lh hlt)
   have hin2:(iJ Rs).take (k+1)=(iJ Rs).take k++[dx (Rs[k]'hlt).l]:=by
    rw[Lc (by unfold iJ;simpa using hlt)];simp[iJ]
   obtain⟨r,hr⟩:∃r,Rs[k]'hlt=r:=⟨_,rfl⟩
   rw[hr]at cp hok hs hrl hin2
   obtain⟨l,A,cl⟩:=r
   have cp1:wr.cell? ⟨b,off+k,none⟩=some (.slice A l.length cl):=cp
   dsimp only at hs hrl hin2
   have hki:(0:Int)<=(k:Int):=by omega
   have hki2:(k:Int)< (Rs.length:Int):=by omega
   obtain⟨E,hE⟩:∃E,bJ l=E:=⟨_,rfl⟩
   rw[hE]at hs
   have HE:=KO hE
   have HS:=KO hs
   have HOK:=KO hok.sl
   have HIN:=KO hin2
   have HOW:=KO hown
   have HSS:=KO hS
   clear cp hr hE hs hok hin2 hown hS
   have hbX:Below wr.heap.size wr (wr.alloc (.cells #[.slice A l.length cl] 145)):=(KR _ _).alloc (KS _) _
   have hbs:=hb.size
   by_cases h0:E=0
   ·subst h0
    have hsl:nO l=dx l:=by unfold nO;rw[if_pos HE.out]
    have HSL:=KO hsl
    have hll:l.length<=65536:=(kK HE.out).2.2
    have HIL:=KO (aG l)
    clear hsl
    go_wp2_with fail
    refine(qi A l cl _ (HOK.out.below hbX) hrl).mono ?_
    rw[HSL.out,HE.out]
    rintro e w1 ⟨A1,c1,rfl,ho1,hb1⟩
    have hb2:Below wr.heap.size wr w1:=aa hbX hb1
    have HO1:=KO (av (B':=W0.heap.size) ho1 (by simp;omega))
    have HOW1:=KO (own_below HOW.out hb2)
    have hs1:=hb2.size
    clear ho1 hb1
    go_wp2_with (at_builtin;refine ag _ rfl (.tmp 30) (.tmp 32) _ rfl W0.heap.size 143 te0 _ 1 24 underlying304 HI1.out.1 HI1.out.2.1 HI1.out.2.2.1 HI1.out.2.2.2 rfl (by omega) (.slice A' k c') k _ rfl (HOW1.out.alloc _) _ 1 _ [.slice A1 (dx l).length c1] rfl (by exact df _ _ _) rfl (by simp[K5]) (by unfold maxLen;omega) (by omega) (by simp;omega) ?_;intro v2 w2 hown2 hg2;obtain⟨A2,q2,rfl,hle2,hmx2⟩:=ak hown2;have HO2:=KO hown2;clear hown2)
    go_roundw
    case rel=>
     refine⟨k+1,Ss++[⟨dx l,A1,c1⟩],A2,q2,by omega,by go_num,?_,rfl,?_,?_,?_,?_,?_⟩
     ·exact((aa hb hb2).alloc (by omega) _).grown hg2 (by simp;omega) (fun q hq=>(HOW1.out.lt q hq).1)
     ·show _=_
      rw[List.length_append,hSk.out];rfl
     ·rw[MR];exact HO2.out
     ·intro s hs
      refine sN hg2 (HOW1.out.alloc _) ?_ (by decide)
      rcases List.mem_append.1 hs with hs|hs
      ·exact(own_below (HSS.out s hs) hb2).alloc _
      ·obtain rfl:s=⟨dx l,A1,c1⟩:=by simpa using hs
       exact HO1.out.alloc _
     ·show _=_
      rw[MR,hin.out,HIN.out];rfl
     ·show _=_
      rw[<-hd.out,HS.out];simp
    case measure=>simp[intOf];omega
   ·have h1:(E !=0)=true:=by simpa using h0
    have hsl:nO l=[]:=by unfold nO;rw[if_neg (by rw[HE.out];exact h0)]
    have HSL:=KO hsl
    have hE2:bi (Rs.map Rm.l)=E:=by rw[<-hd.out,HS.out,if_neg h0]
    have hE3:nE Rs=E:=by unfold nE;rw[hE2,if_neg h0]
    have hL3:qx Rs bare=[]:=by unfold qx;rw[hE3,if_neg h0]
    have HE3:=KO hE3
    have HL3:=KO hL3
    have hrw:=hr0.below hb hr0.lt
    have HRW:=KO hrw
    have hrl2:=hrw.lt
    clear hsl h0 hE2 hE3 hL3 hrw
    go_wp2_with fail
    refine(qi A l cl _ (HOK.out.below hbX) hrl).mono ?_
    rw[HSL.out,HE.out]
    rintro e w1 ⟨A1,c1,rfl,ho1,hb1⟩
    have hb2:Below wr.heap.size wr w1:=aa hbX hb1
    have hrw1:=HRW.out.below hb2 hrl2
    have hc1:w1.cell? ⟨w.heap.size,0,none⟩=some (.slice none 0 0):=hrw1.cell 0
    have hf1:w1.frozen? ⟨w.heap.size,0,none⟩=false:=hrw1.frozen 0
    clear ho1 hb1 hrw1
    go_wp2
    refine KV (v:= .tuple #[.agg #[.slice none 0 0],.int .i64 E]) (by simp[results,results263,go_sem,hc1]) rfl ?_
    rw[HE3.out]
    exact jV ((aa hbw hb2).setCell (p:=⟨w.heap.size,0,none⟩) (KS _) _) HL3.out
  ·have hkn:k=Rs.length:=by omega
   have hC:bi (Rs.map Rm.l)=0:=by rw[<-hd.out,MG (by simp;omega)];rfl
   have hinS:Ss.map Rm.l=iJ Rs:=by rw[hin.out,KZ (by unfold iJ;simp;omega)]
   have hSok:∀s∈Ss,s.Ok wr:=by
    intro s hs
    have h1:=hS s hs
    obtain⟨A3,c3,h3,h4,h5⟩:=ak h1
    obtain⟨ls,As,cs⟩:=s
    have h6:As=A3/\cs=c3:=by simpa[Rm.v]using h3
    obtain⟨rfl,rfl⟩:=h6
    exact⟨aA h1,h4,h5⟩
   have hSsum:(Ss.map (fun r=>r.l.length)).sum<=T:=by
    have:Ss.map (fun r=>r.l.length)=(iJ Rs).map List.length:=by rw[<-hinS,Nj];rfl
    rw[this,nM];exact hT
   have hSris:∀s∈Ss,RisE s.l:=fun s hs=>Cq hC _ (hinS ▸ List.mem_map.2 ⟨s,hs,rfl⟩)
   have hSl:=aA hown
   have HSL:=KO hSl
   have HSO:=KO hSok
   have HSS:=KO hSsum
   have HSR:=KO hSris
   have HC:=KO hC
   have HIN:=KO hinS
   have hrw:=hr0.below hb hr0.lt
   have HRW:=KO hrw
   have hrl2:=hrw.lt
   have hSn:Ss.length=k:=hSk.out
   have HSN:=KO hSn
   have HKN:=KO hkn
   clear hC hinS hSok hSsum hSris hSl hown hS hrw hSn hkn
   have hmg:=Bi wr A' Ss c' T HSL.out HSO.out HSR.out (by have:=HSN.out;omega) HSS.out hT2
   rw[HSN.out,HIN.out]at hmg
   obtain⟨O,hO⟩:∃O,bM (iJ Rs)=O:=⟨_,rfl⟩
   rw[hO]at hmg
   have hOT:O.length<=T:=by
    rw[<-hO]
    have h1:=jG (iJ Rs) []
    rw[nM]at h1
    unfold bM
    simp at h1
    omega
   have HO:=KO hO
   have HMG:=KO hmg
   have HEq:Hid (nE Rs=if O.length>65536 then 4 else 0):=by
    show _=_
    unfold nE
    rw[if_pos HC.out,hO]
   have HLq:Hid (nE Rs=0->qx Rs bare=laid (dR bare O)):=by
    show _->_
    intro h
    unfold qx
    rw[if_pos h,hO]
   clear hmg hO
   by_cases hbig:O.length>65536
   ·have hE3:nE Rs=4:=by rw[HEq.out,if_pos hbig]
    have hL3:qx Rs bare=[]:=by unfold qx;rw[hE3];rfl
    have HE3:=KO hE3
    have HL3:=KO hL3
    clear hE3 hL3
    go_wp2_with fail
    refine HMG.out.mono ?_
    rintro e w1 ⟨A1,c1,rfl,ho1,hb1⟩
    have hrw1:=HRW.out.below hb1 hrl2
    have hc1:w1.cell? ⟨w.heap.size,0,none⟩=some (.slice none 0 0):=hrw1.cell 0
    have hf1:w1.frozen? ⟨w.heap.size,0,none⟩=false:=hrw1.frozen 0
    clear ho1 hrw1
    go_wp2
    refine KV (v:= .tuple #[.agg #[.slice none 0 0],.int .i64 4]) (by simp[results,results263,go_sem,hc1]) rfl ?_
    rw[HE3.out]
    exact jV ((aa hbw hb1).setCell (p:=⟨w.heap.size,0,none⟩) (KS _) _) HL3.out
   ·have hE3:nE Rs=0:=by rw[HEq.out,if_neg hbig]
    have hL3:qx Rs bare=laid (dR bare O):=HLq.out hE3
    have hbe:bQ (dR bare O)=0:=by have:=(uG bare hE3).1;rwa [HO.out]at this
    have hbl:jS (dR bare O)=laid (dR bare O):=by unfold jS;rw[if_pos hbe]
    have HE3:=KO hE3
    have HL3:=KO hL3
    have HBE:=KO hbe
    have HBL:=KO hbl
    have hol:O.length<=65536:=by omega
    clear hE3 hL3 hbe hbl
    cases bare with
    |false=>
     go_wp2_with fail
     refine HMG.out.mono ?_
     rintro e w1 ⟨A1,c1,rfl,ho1,hb1⟩
     have hs1:=aA ho1
     have HW1:=KO (HRW.out.below hb1 hrl2)
     clear ho1
     go_wp2_with fail
     refine(vB A1 O c1 _ hs1 (by omega)).mono ?_
     rw[show O=dR false O from rfl,HBE.out,HBL.out]
     rintro e w2 ⟨A2,c2,rfl,ho2,hb2⟩
     have hrw1:=HW1.out.below hb2 HW1.out.lt
     have hc1:w2.cell? ⟨w.heap.size,0,none⟩=some (.slice none 0 0):=hrw1.cell 0
     have hf1:w2.frozen? ⟨w.heap.size,0,none⟩=false:=hrw1.frozen 0
     have HO2:=KO ho2
     have hlw:w.heap.size< w1.heap.size:=HW1.out.lt
     clear ho2 hrw1
     go_wp2
     refine KV (v:= .tuple #[.agg #[.slice A2 (laid (dR false O)).length c2],.int .i64 0]) (by simp[results,results263,go_sem,hc1]) rfl ?_
     rw[HE3.out,HL3.out]
     refine⟨A2,c2,rfl,fe (av HO2.out (by omega)) ?_ _,(aa hbw (aa hb1 hb2)).setCell (p:=⟨w.heap.size,0,none⟩) (KS _) _⟩
     intro e
     have:=(HO2.out.lt _ e).1
     dsimp only at this
     omega
    |true=>
     go_wp2_with fail
     refine HMG.out.mono ?_
     rintro e w1 ⟨A1,c1,rfl,ho1,hb1⟩
     have HS1:=KO (aA ho1)
     have HW1:=KO (HRW.out.below hb1 hrl2)
     clear ho1
     go_wp2
     go_loopw [12,44] (fun v i wr2=>∃(j:Nat) (o:List Ent) (A3:Option Addr) (c3:Nat),j<=O.length/\i= .int .i64 j/\Below w1.heap.size w1 wr2/\v= .slice A3 o.length c3/\
      wr2.ownsRow w1.heap.size 183 3 (.slice A3 o.length c3) o.length (o.flatMap Ent.cells)/\Hid (o=dD (O.take j))) (fun _ i _=>O.length-(intOf i).toNat)
     case atStart=>exact⟨0,[],none,0,K8 _,rfl,KR _ _,rfl,Li _ _ _ _,rfl⟩
     case round=>
      obtain⟨j,o,A3,c3,hj,rfl,hb3,rfl,hown3,ho3⟩:=hrel
      have hbs3:=hb3.size
      by_cases hlt2:j< O.length
      ·obtain⟨b,off,rfl,hbl,e1,e2,e3⟩:=HS1.out.entB hb3 j hlt2
       have hol3:o.length<=j:=by rw[ho3.out];have:=gF (O.take j);simp at this;omega
       have hki:(0:Int)<=(j:Int):=by omega
       have hki2:(j:Int)< (O.length:Int):=by omega
       have hs:=lM hlt2
       obtain⟨x,hx⟩:∃x,O[j]'hlt2=x:=⟨_,rfl⟩
       rw[hx]at e1 e2 e3 hs
       have HOW3:=KO hown3
       cases hd2:x.dead
       ·rw[hd2]at hs e3
        obtain⟨wa,hwa⟩:∃wa,wr.alloc (.cells #[.int .i64 x.key,.int .i64 x.val,.bool false] 183)=wa:=⟨_,rfl⟩
        have hba:Below wr.heap.size wr wa:=by rw[<-hwa];exact(KR _ _).alloc (KS _) _
        have bxa:Blk wa wr.heap.size 183 #[.int .i64 x.key,.int .i64 x.val,.bool false]:=by rw[<-hwa];exact Blk.new _ _ _
        have x0:=bxa.cell
        have hsa:=hba.size
        have HD:=KO hd2
        have HWA:=KO hwa
        clear bxa hd2 hwa
        have hnew:Hid (o++[x]=dD (O.take (j+1))):=by
         show _=_
         rw[ho3.out,hs];simp
        have HOA:=KO (own_below HOW3.out hba)
        clear hs hx
        go_upto_region 18 with fail
        rw[HWA.out]
        clear HWA
        go_wp2_with (at_builtin;refine ag _ rfl (.tmp 51) (.tmp 53) _ rfl w1.heap.size 183 ti0 _ 3 24 underlying143 HI2.out.1 HI2.out.2.1 HI2.out.2.2.1 HI2.out.2.2.2 rfl (by omega) (.slice A3 o.length c3) o.length _ rfl (HOA.out.alloc _) _ 1 _ [.int .i64 x.key,.int .i64 x.val,.bool false] rfl (by exact df _ _ _) rfl (by simp[K5]) (by unfold maxLen;omega) (by omega) (by simp;omega) ?_;intro v2 w2 hown2 hg2;obtain⟨A4,q4,rfl,hle4,hmx4⟩:=ak hown2;have HO2:=KO hown2;clear hown2)
        go_roundw
        case rel=>
         refine⟨j+1,o++[x],A4,q4,by omega,by go_num,((aa hb3 hba).alloc (by omega) _).grown hg2 (by simp;omega) (fun q hq=>(HOA.out.lt q hq).1),by simp,?_,hnew⟩
         rw[List.flatMap_append,List.length_append]
         simpa[Ent.cells,HD.out]using HO2.out
        case measure=>simp[intOf];omega
       ·rw[hd2]at hs e3
        obtain⟨wa,hwa⟩:∃wa,wr.alloc (.cells #[.int .i64 x.key,.int .i64 x.val,.bool true] 183)=wa:=⟨_,rfl⟩
        have hba:Below wr.heap.size wr wa:=by rw[<-hwa];exact(KR _ _).alloc (KS _) _
        have bxa:Blk wa wr.heap.size 183 #[.int .i64 x.key,.int .i64 x.val,.bool true]:=by rw[<-hwa];exact Blk.new _ _ _
        have x0:=bxa.cell
        have hsa:=hba.size
        have HD:=KO hd2
        have HWA:=KO hwa
        clear bxa hd2 hwa
        have hnew:Hid (o=dD (O.take (j+1))):=by
         show _=_
         rw[ho3.out,hs];simp
        clear hs hx
        go_upto_region 18 with fail
        rw[HWA.out]
        clear HWA
        go_wp2_with fail
        go_roundw
        case rel=>exact⟨j+1,o,A3,c3,by omega,by go_num,aa hb3 hba,rfl,own_below HOW3.out hba,hnew⟩
        case measure=>simp[intOf];omega
      ·have hjn:j=O.length:=by omega
       have ho4:o=dR true O:=by rw[ho3.out,hjn,KZ (KS _)];rfl
       have hs3:=aA hown3
       have hol4:o.length<=65536:=by rw[ho4];have:=gF O;unfold dR;simp;omega
       have HO4:=KO ho4
       have HW3:=KO (HW1.out.below hb3 HW1.out.lt)
       have hlw:w.heap.size< w1.heap.size:=HW1.out.lt
       clear hjn ho4 hown3
       go_wp2_with fail
       refine(vB A3 o c3 _ hs3 (by omega)).mono ?_
       rw[HO4.out,HBE.out,HBL.out]
       rintro e w2 ⟨A2,c2,rfl,ho2,hb2⟩
       have hrw1:=HW3.out.below hb2 HW3.out.lt
       have hc1:w2.cell? ⟨w.heap.size,0,none⟩=some (.slice none 0 0):=hrw1.cell 0
       have hf1:w2.frozen? ⟨w.heap.size,0,none⟩=false:=hrw1.frozen 0
       have HO2:=KO ho2
       clear ho2 hrw1
       go_wp2
       refine KV (v:= .tuple #[.agg #[.slice A2 (laid (dR true O)).length c2],.int .i64 0]) (by simp[results,results263,go_sem,hc1]) rfl ?_
       rw[HE3.out,HL3.out]
       refine⟨A2,c2,rfl,fe (av HO2.out (by omega)) ?_ _,(aa hbw (aa hb1 (aa hb3 hb2))).setCell (p:=⟨w.heap.size,0,none⟩) (KS _) _⟩
       intro e
       have:=(HO2.out.lt _ e).1
       dsimp only at this
       omega
section
theorem yQ (l:List Ent):∀u∈l.flatMap Ent.cells,u.oneCell'=true:=by
 intro u hu;obtain⟨e,_,he⟩:=List.mem_flatMap.1 hu;simp[Ent.cells]at he;rcases he with rfl|rfl|rfl <;> rfl
theorem pO (l:List Ent):(l.flatMap Ent.cells).length=l.length*3:=aQ Ent.cells 3 Ent.cells_length l
theorem xe (A:Option Addr) (n c:Nat) (w:World):(binOp .eql 143 (.slice A n c) (.slice none 0 0)).run prog w= .ok (.bool A.isNone) w:=Lib.run_eql_slice_nil w _ _ A n c _ _ underlying143
theorem vk {w:World} {g B:Nat} (h:Blk w g 183 #[]) (hB:B<=g):w.ownsRow B 183 3 (.slice (some ⟨g,0,none⟩) 0 0) 0 []:=
 ⟨rfl,.inr ⟨g,0,_,rfl,hB,h,KS _,K8 _,rfl,rfl⟩⟩
def uF (l:List Ent) (w:World) (r:Ending) (w':World):Prop:=
 ∃A c,r= .returned (.agg #[.slice A l.length c])/\w'.ownsRow w.heap.size 183 3 (.slice A l.length c) l.length (l.flatMap Ent.cells)/\Below w.heap.size w w'
theorem Ai (A:Option Addr) (l:List Ent) (c:Nat) (w:World) (hA:Sl w A (l.flatMap Ent.cells)) (hl:l.length<=1000000):
  Calls prog 148 #[.slice A l.length c] w (dW 183 3 l.length (l.flatMap Ent.cells) w):=by
 obtain⟨i0,hi,hz0,hz1,hz2⟩:=LU gP
 have hn:=xe A l.length c w
 cases A with
 |none=>
  have hnil:l=[]:=by
   rcases hA with h|⟨b,off,h,_⟩
   ·cases l with
    |nil=>rfl
    |cons a l=>simp[Ent.cells]at h
   ·cases h
  subst hnil
  have hn2:∀n,(binOp .eql 143 (.slice none n c) (.slice none 0 0)).run prog w= .ok (.bool true) w:=fun n=>xe none n c w
  clear hn
  go_enter func148,ntmps148
  go_wp2
  go_ret
  exact⟨none,0,rfl,Li _ _ _ _,KR _ _⟩
 |some a=>
  have hb0:Below w.heap.size w (w.alloc (.cells #[] 183)):=(KR _ _).alloc (KS _) _
  have hown0:(w.alloc (.cells #[] 183)).ownsRow w.heap.size 183 3 (.slice (some ⟨w.heap.size,0,none⟩) 0 0) 0 []:=vk (Blk.new _ _ _) (KS _)
  go_enter func148,ntmps148
  go_wp2_with (at_builtin;refine ag _ rfl (.tmp 5) (.tmp 6) _ rfl w.heap.size 183 i0 _ 3 24 underlying143 hi hz0 hz1 hz2 rfl (by omega) (.slice (some ⟨w.heap.size,0,none⟩) 0 0) 0 [] rfl hown0 (some a) l.length c (l.flatMap Ent.cells) rfl (hA.below hb0) (pO l) (yQ l) (by unfold maxLen;omega) (by omega) (by simp) ?_;intro v1 w1 hown1 hg1;simp only[Mx,LA]at hown1;obtain⟨A1,c1,rfl,hlc1,hcm1⟩:=ak hown1)
  go_ret
  exact⟨A1,c1,rfl,hown1,hb0.grown hg1 (by simp) (fun k hk=>(hown0.lt k hk).1)⟩
theorem Gu (A:Option Addr) (l:List Ent) (c:Nat) (w:World) (hA:Sl w A (l.flatMap Ent.cells)) (hl:l.length<=1000000):
  Calls prog 129 #[.agg #[.slice A l.length c]] w (uF l w):=by
 have hb0:Below w.heap.size w ((w.alloc (.cells #[.slice A l.length c] 145)).alloc (.cells #[.slice none 0 0] 145)):=((KR _ _).alloc (KS _) _).alloc (by simp) _
 have bR:Blk ((w.alloc (.cells #[.slice A l.length c] 145)).alloc (.cells #[.slice none 0 0] 145)) (w.heap.size+1) 145 #[.slice none 0 0]:=by
  have:=Blk.new (w.alloc (.cells #[.slice A l.length c] 145)) 145 #[.slice none 0 0]
  rwa [KX]at this
 go_enter func129,ntmps129
 go_wp2_with fail
 refine(Ai A l c _ (hA.below hb0) hl).mono ?_
 rintro e w1 ⟨A1,c1,rfl,ho1,hb1⟩
 have hb01:=aa hb0 hb1
 have bR1:=bR.below hb1 bR.lt
 have ho1:=av ho1 (show w.heap.size+1+1<=_ by simp)
 have c0:w1.cell? ⟨w.heap.size+1,0,none⟩=some (.slice none 0 0):=bR1.cell 0
 have f0:w1.frozen? ⟨w.heap.size+1,0,none⟩=false:=bR1.frozen 0
 go_wp2
 have e1:(w1.setCell ⟨w.heap.size+1,0,none⟩ (.slice A1 l.length c1)).cell? ⟨w.heap.size+1,0,none⟩=some (.slice A1 l.length c1):=(bR1.set_ 0 (.slice A1 l.length c1)).cell 0
 refine KV (v:= .agg #[.slice A1 l.length c1]) (by simp[results,results129,go_sem,e1]) rfl ?_
 refine⟨A1,c1,rfl,fe (av ho1 (by omega)) ?_ _,hb01.setCell (p:=⟨w.heap.size+1,0,none⟩) (Mm _) _⟩
 intro h
 have:=(ho1.lt _ h).1
 simp at this
 omega
theorem xz (A:Option Addr) (l:List Ent) (c:Nat) (w:World) (hA:Sl w A (l.flatMap Ent.cells)) (hl:l.length<=1000000):
  Calls prog 79 #[.agg #[.slice A l.length c]] w (uF l w):=by
 obtain⟨ti0,hi,hz0,hz1,hz2⟩:=LU gP
 have HI:=KO (And.intro hi (And.intro hz0 (And.intro hz1 hz2)))
 clear hi hz0 hz1 hz2
 obtain⟨W,hW⟩:∃W,((w.alloc (.cells #[.slice A l.length c] 145)).alloc (.cells #[.slice none 0 0] 145)).alloc (.cells #[] 183)=W:=⟨_,rfl⟩
 have hb0:Below w.heap.size w W:=by rw[<-hW];exact(((KR _ _).alloc (KS _) _).alloc (by simp) _).alloc (by simp;omega) _
 have hown0:W.ownsRow (w.heap.size+1+1) 183 3 (.slice (some ⟨w.heap.size+1+1,0,none⟩) 0 0) 0 []:=by
  rw[<-hW]
  have:=Blk.new ((w.alloc (.cells #[.slice A l.length c] 145)).alloc (.cells #[.slice none 0 0] 145)) 183 #[]
  rw[KX,KX]at this
  exact vk this (KS _)
 have bX:Blk W w.heap.size 145 #[.slice A l.length c]:=by rw[<-hW];exact((Blk.new _ _ _).alloc _).alloc _
 have bR:Blk W (w.heap.size+1) 145 #[.slice none 0 0]:=by
  rw[<-hW]
  have:=Blk.new (w.alloc (.cells #[.slice A l.length c] 145)) 145 #[.slice none 0 0]
  rw[KX]at this
  exact this.alloc _
 have c5:W.cell? ⟨w.heap.size,0,none⟩=some (.slice A l.length c):=bX.cell 0
 have hsz:W.heap.size=w.heap.size+1+1+1:=by rw[<-hW];simp
 have HSZ:=KO hsz
 clear hsz
 go_enter func79,ntmps79
 go_wp2_with (at_builtin;refine ag _ rfl (.tmp 3) (.tmp 5) _ rfl (w.heap.size+1+1) 183 ti0 _ 3 24 underlying143 HI.out.1 HI.out.2.1 HI.out.2.2.1 HI.out.2.2.2 rfl (by omega) (.slice (some ⟨w.heap.size+1+1,0,none⟩) 0 0) 0 [] rfl hown0 A l.length c (l.flatMap Ent.cells) rfl (hA.below hb0) (pO _) (yQ _) (by unfold maxLen;omega) (by omega) (by have:=HSZ.out;omega) ?_;intro v1 w1 hown1 hg1;simp only[Mx,LA]at hown1;obtain⟨A1,c1,rfl,hlc1,hcm1⟩:=ak hown1;have bR1:Blk w1 (w.heap.size+1) 145 #[.slice none 0 0]:=bR.of (hg1.block _ bR.lt (by simp[M9]));have r0:w1.cell? ⟨w.heap.size+1,0,none⟩=some (.slice none 0 0):=bR1.cell 0;have fr0:w1.frozen? ⟨w.heap.size+1,0,none⟩=false:=bR1.frozen 0)
 have hb1:Below w.heap.size w w1:=hb0.grown hg1 (by have:=HSZ.out;omega) (fun k hk=>by have:=(hown0.lt k hk).1;omega)
 have e1:(w1.setCell ⟨w.heap.size+1,0,none⟩ (.slice A1 l.length c1)).cell? ⟨w.heap.size+1,0,none⟩=some (.slice A1 l.length c1):=(bR1.set_ 0 (.slice A1 l.length c1)).cell 0
 refine KV (v:= .agg #[.slice A1 l.length c1]) (by simp[results,results79,go_sem,e1]) rfl ?_
 refine⟨A1,c1,rfl,fe (av hown1 (by omega)) ?_ _,hb1.setCell (p:=⟨w.heap.size+1,0,none⟩) (Mm _) _⟩
 intro h
 have:=(hown1.lt _ h).1
 simp at this
 omega
section
variable {w w':World} {B h:Nat} {A:Option Addr} {n:Nat}
end
end
theorem vI (Rs:List Rm):iJ Rs=(Rs.map Rm.l).map dx:=by unfold iJ;rw[Nj];rfl
theorem Im {Rs:List Rm} {T:Nat} (bare:Bool) (hT:(Rs.map (fun r=>r.l.length)).sum<=T):(qx Rs bare).length<=T:=by
 unfold qx
 split
 ·rw[bL]
  have h1:=jG (iJ Rs) []
  rw[nM]at h1
  have h2:(bM (iJ Rs)).length<=T:=by unfold bM;simp at h1;omega
  unfold dR
  split
  ·have:=gF (bM (iJ Rs));omega
  ·exact h2
 ·exact K8 _
def mE (rs:List (List Ent)):Int:=if bi rs=0 then(if (bM (rs.map dx)).length>65536 then 4 else 0)else bi rs
def mL (rs:List (List Ent)) (bare:Bool):List Ent:=if mE rs=0 then laid (dR bare (bM (rs.map dx)))else[]
theorem Bb (Rs:List Rm):nE Rs=mE (Rs.map Rm.l):=by unfold nE mE;rw[vI]
theorem Gr (Rs:List Rm) (bare:Bool):qx Rs bare=mL (Rs.map Rm.l) bare:=by unfold qx mL;rw[Bb,vI]
theorem Az:∀{l:List Nat} {x:Nat},x∈l->x<=l.sum
 |[],_,h=>by simp at h
 |y::l,x,h=>by
  rw[List.sum_cons]
  rcases List.mem_cons.1 h with rfl|h
  ·omega
  ·have:=Az h;omega
def Hr (Rs:List Rm) (most:Nat) (w:World) (r:Ending) (w':World):Prop:=∃G:Bool,r= .returned (.bool G)/\(G=false->Rs.length+(Rs.map (fun r=>r.l.length)).sum<=most)/\w=w'
theorem yF (B:Option Addr) (Rs:List Rm) (c most:Nat) (w:World) (hB:RunsAt w B Rs) (hm:most<=1000000):
  Calls prog 64 #[.slice B Rs.length c,.int .i64 most] w (Hr Rs most w):=by
 go_enter func64,ntmps64
 go_wp2
 go_loop [5,6] (fun n i=>∃k s:Nat,k<=Rs.length/\i= .int .i64 k/\n= .int .i64 s/\Hid (s=Rs.length+((Rs.take k).map (fun r=>r.l.length)).sum)/\(s<=most+most∨k=0)) (fun _ i=>Rs.length-(intOf i).toNat)
 case atStart=>exact⟨0,Rs.length,K8 _,rfl,rfl,by show _=_;simp,.inr rfl⟩
 case round=>
  obtain⟨k,s,hk,rfl,rfl,hs,hsm⟩:=hrel
  by_cases hlt:k< Rs.length
  ·obtain⟨b,off,rfl,hbl,cp⟩:=hB.sl.one k hlt
   have hsum:((Rs.take (k+1)).map (fun r=>r.l.length)).sum=((Rs.take k).map (fun r=>r.l.length)).sum+(Rs[k]'hlt).l.length:=by
    rw[Lc hlt,MR,List.sum_append];simp
   obtain⟨r,hr⟩:∃r,Rs[k]'hlt=r:=⟨_,rfl⟩
   rw[hr]at cp hsum
   obtain⟨l,A,cl⟩:=r
   have cp1:w.cell? ⟨b,off+k,none⟩=some (.slice A l.length cl):=cp
   dsimp only at hsum
   have HSUM:=KO hsum
   have hki:(0:Int)<=(k:Int):=by omega
   have hki2:(k:Int)< (Rs.length:Int):=by omega
   clear cp hr hsum
   by_cases h1:most< s
   ·have e1:decide ((most:Int)< (s:Int))=true:=decide_eq_true (by omega)
    go_wp2
    go_ret
    exact⟨true,rfl,(fun h=>nomatch h),rfl⟩
   ·have e1:decide ((most:Int)< (s:Int))=false:=decide_eq_false (by omega)
    have hRm:Rs.length<=most:=by have:=hs.out;omega
    by_cases h2:most< l.length
    ·have e2:decide ((most:Int)< (l.length:Int))=true:=decide_eq_true (by omega)
     go_wp2
     go_ret
     exact⟨true,rfl,(fun h=>nomatch h),rfl⟩
    ·have e2:decide ((most:Int)< (l.length:Int))=false:=decide_eq_false (by omega)
     have e3:IntKind.i64.wrap ((s:Int)+(l.length:Int))=(s:Int)+(l.length:Int):=KU _ (by omega)
     go_wp2
     go_round
     case rel=>exact⟨k+1,s+l.length,by omega,by go_num,by go_num,by show _=_;rw[HSUM.out,hs.out];omega,.inl (by omega)⟩
     case measure=>simp[intOf];omega
  ·have hkn:k=Rs.length:=by omega
   have hsum:s=Rs.length+(Rs.map (fun r=>r.l.length)).sum:=by rw[hs.out,hkn,KZ (KS _)]
   have HS:=KO hsum
   clear hkn hsum
   by_cases h1:most< s
   ·have e1:decide ((most:Int)< (s:Int))=true:=decide_eq_true (by omega)
    go_wp2
    go_ret
    exact⟨true,rfl,(fun h=>nomatch h),rfl⟩
   ·have e1:decide ((most:Int)< (s:Int))=false:=decide_eq_false (by omega)
    go_wp2
    go_ret
    exact⟨false,rfl,fun _=>by have:=HS.out;omega,rfl⟩
theorem Kk {rs:List (List Ent)} (h:bi rs=0) (hT:(rs.map List.length).sum<=65536):mE rs=0:=by
 unfold mE
 rw[if_pos h,if_neg]
 have h1:=jG (rs.map dx) []
 have h2:((rs.map dx).map List.length).sum=(rs.map List.length).sum:=by
  rw[Nj]
  congr 1
  exact List.map_congr_left (fun r _=>aG r)
 rw[h2]at h1
 unfold bM
 simp at h1 ⊢
 omega
theorem KC (rs:List (List Ent)):(rs.map (fun l=>(⟨l,none,0⟩:Rm))).map Rm.l=rs:=by rw[Nj];simp[Function.comp_def]
theorem FI {rs:List (List Ent)} (bare:Bool) (h:mE rs=0):bQ (dR bare (bM (rs.map dx)))=0:=by
 have h2:=uG (Rs:=rs.map (fun l=>(⟨l,none,0⟩:Rm))) bare (by rw[Bb,KC];exact h)
 rw[vI,KC]at h2
 exact h2.1
theorem Jk {rs:List (List Ent)} (bare:Bool) (h:mE rs=0):mL rs bare=laid (dR bare (bM (rs.map dx))):=by unfold mL;rw[if_pos h]
theorem JL {rs:List (List Ent)} (bare:Bool) (h:mE rs=0):bJ (mL rs bare)=0:=by
 rw[Jk bare h]
 exact CZ (FI bare h)
theorem Kl {rs:List (List Ent)} (bare:Bool) (h:mE rs=0):dx (mL rs bare)=dR bare (bM (rs.map dx)):=by rw[Jk bare h,CB]
theorem JD {rs:List (List Ent)} {T:Nat} (bare:Bool) (hT:(rs.map List.length).sum<=T):(mL rs bare).length<=T:=by
 have h:=Im (Rs:=rs.map (fun l=>(⟨l,none,0⟩:Rm))) (T:=T) bare (by rw[Nj];exact hT)
 rw[Gr,KC]at h
 exact h
theorem yj {rs:List (List Ent)} (h:∀r∈rs,bJ r=0):bi rs=0:=by
 induction rs with
 |nil=>rfl
 |cons r rs ih=>
  rw[bi,if_pos (h r (by simp))]
  exact ih fun q hq=>h q (by simp[hq])
def up (n:Nat):Nat:=if n<=1 then 0 else Lx (n-1)+1
abbrev Lv:=List (List Ent)
def lev (rs:Lv) (j:Nat):List Ent:=rs.getD j []
theorem zt {rs:Lv} {j:Nat} (h:j< rs.length):lev rs j=rs[j]'h:=by simp[lev,h]
theorem Ac {rs:Lv} {j:Nat} (h:rs.length<=j):lev rs j=[]:=by unfold lev;rw[List.getD_eq_getElem?_getD,List.getElem?_eq_none h];rfl
theorem Ig (j:Nat):lev [] j=[]:=Ac (K8 _)
theorem rU {rs:Lv} {l:List Ent} (h:l∈rs):∃j,j< rs.length/\lev rs j=l:=by
 obtain⟨j,hj,e⟩:=List.getElem_of_mem h
 exact⟨j,hj,by rw[zt hj,e]⟩
def KJ (rs:Lv):Prop:=rs=[]∨lev rs (rs.length-1)≠[]
def Stood (rs:Lv):Prop:=∀j,lev rs j=[]∨up (lev rs j).length=j
def tot (rs:Lv):Nat:=(rs.map List.length).sum
theorem nP (l:List Ent) (rs:Lv):tot (l::rs)=l.length+tot rs:=by simp[tot]
theorem Gl (rs:Lv) (l:List Ent):tot (rs++[l])=tot rs+l.length:=by simp[tot]
theorem pQ:∀(rs:Lv) (k:Nat),tot (rs.set k [])+(lev rs k).length=tot rs
 |[],k=>by simp[tot,Ig]
 |l::rs,0=>by simp[tot,lev,Nat.add_comm]
 |l::rs,k+1=>by
  have:=pQ rs k
  rw[List.set_cons_succ,nP,nP]
  have e:lev (l::rs) (k+1)=lev rs k:=by simp[lev]
  rw[e];omega
theorem IA (rs:Lv) (j:Nat):(lev rs j).length<=tot rs:=by have:=pQ rs j;omega
def gK (l:List Ent):Bool:=l.any (fun e=>e.dead)
def jo (n i:Nat) (l:List Ent):Bool:=decide (bJ l=0)&&(decide (l=[])||decide (up l.length=i))&&(decide (i+1≠n)||!gK l)
def ib (rs:Lv):Bool:=decide (rs.length<=17)&&(decide (rs.length=0)||decide (lev rs (rs.length-1)≠[]))
def iN (rs:Lv) (k:Nat):Bool:=decide (∀i,i< k->jo rs.length i (lev rs i)=true)
theorem tH (rs:Lv) (k:Nat):iN rs (k+1)=(iN rs k&&jo rs.length k (lev rs k)):=by
 unfold iN
 rw[Bool.eq_iff_iff]
 simp only[decide_eq_true_eq,Lm]
 constructor
 ·exact fun h=>⟨fun i hi=>h i (by omega),h k (by omega)⟩
 ·intro ⟨h1,h2⟩ i hi
  by_cases e:i=k
  ·subst e;exact h2
  ·exact h1 i (by omega)
def kg (rs:Lv):Bool:=ib rs&&iN rs rs.length&&decide (tot rs<=65536)
def fE (rs:Lv):Int:=if kg rs=true then 0 else 8
structure May (rs:Lv):Prop where
 len:rs.length<=17
 top:KJ rs
 chk:∀j,bJ (lev rs j)=0
 stood:Stood rs
 last:∀j,j+1=rs.length->gK (lev rs j)=false
 size:tot rs<=65536
theorem Ic:bJ []=0:=by
 have h:dx []=[]:=by unfold dx;simp[ai]
 unfold bJ;rw[h];decide
theorem Hq (rs:Lv):kg rs=true↔May rs:=by
 unfold kg ib iN jo
 simp only[Lm,Bool.or_eq_true,decide_eq_true_eq,Bool.not_eq_true']
 constructor
 ·rintro⟨⟨⟨h1,h2⟩,h3⟩,h4⟩
  refine⟨h1,?_,fun j=>?_,fun j=>?_,fun j hj=>?_,h4⟩
  ·rcases h2 with h2|h2
   ·exact .inl (List.eq_nil_of_length_eq_zero h2)
   ·exact .inr h2
  ·rcases Nat.lt_or_ge j rs.length with h|h
   ·exact(h3 j h).1.1
   ·rw[Ac h];exact Ic
  ·rcases Nat.lt_or_ge j rs.length with h|h
   ·exact(h3 j h).1.2
   ·exact .inl (Ac h)
  ·rcases(h3 j (by omega)).2 with h|h
   ·exact absurd hj h
   ·exact h
 ·intro h
  refine⟨⟨⟨h.len,?_⟩,fun i hi=>⟨⟨h.chk i,h.stood i⟩,?_⟩⟩,h.size⟩
  ·rcases h.top with e|e
   ·left;rw[e];rfl
   ·exact .inr e
  ·by_cases e:i+1=rs.length
   ·exact .inr (h.last i e)
   ·exact .inl e
theorem lN {rs:Lv}:fE rs=0↔May rs:=by
 rw[<-Hq]
 unfold fE
 split <;> simp_all
theorem May.chkAll {rs:Lv} (h:May rs):bi rs=0:=yj fun r hr=>by
 obtain⟨j,_,e⟩:=rU hr
 rw[<-e];exact h.chk j
theorem May.mE {rs:Lv} (h:May rs):mE rs=0:=Kk h.chkAll h.size
theorem AO (x:Nat) (h:x< 2 ^ 64):Lib.bitLen x=if x=0 then 0 else Lx x+1:=by
 induction x using Nat.strongRecOn with
 |_ x ih=>
  by_cases h0:x=0
  ·subst h0;rfl
  ·rw[Lib.bitLen_half x h0 h,ih (x/2) (by omega) (by omega),if_neg h0,Nat.log2_def x]
   by_cases h2:2<=x
   ·rw[if_pos h2,if_neg (by omega)];omega
   ·obtain rfl:x=1:=by omega
    simp
theorem Ey {n:Nat} (h:n<=65536):Lib.bitLen (n-1)=up n:=by
 rw[AO _ (by omega)]
 unfold up
 by_cases h1:n<=1
 ·rw[if_pos h1,if_pos (by omega)]
 ·rw[if_neg h1,if_neg (by omega)]
theorem CR (x:Int) (w:World) (h0:0<=x) (h1:x<=65535):Calls prog 294 #[.int .u64 x] w fun e w'=>e= .returned (.int .i64 (Lib.bitLen x.toNat))/\w'=w:=by
 have g1:¬4294967296<=x:=by omega
 have g2:¬65536<=x:=by omega
 by_cases h2:x<=255
 ·have g3:¬256<=x:=by omega
  go_enter func294,ntmps294
  go_wp2
  go_ret
  refine⟨congrArg Ending.returned (congrArg (LB IntKind.i64) ?_),rfl⟩
  rw[Lib.len8_of x h0 h2]
  have l:=Lib.bitLen_le8' x h0 h2
  unfold wrap64
  omega
 ·have g3:256<=x:=by omega
  have g4:0<=x/256:=by omega
  have g5:x/256<=255:=by omega
  go_enter func294,ntmps294
  go_wp2
  go_ret
  refine⟨congrArg Ending.returned (congrArg (LB IntKind.i64) ?_),rfl⟩
  rw[Lib.len8_of (x/256) g4 g5]
  have e:(x/256).toNat=x.toNat/256:=by omega
  have l:=Lib.bitLen_le8' (x/256) g4 g5
  have s:=Lib.bitLen_shift8 x.toNat (by omega) (by omega)
  rw[e]at l ⊢
  unfold wrap64
  omega
theorem IU (x:Int) (w:World) (h0:0<=x) (h1:x<=65535):Calls prog 285 #[.int .u64 x] w fun e w'=>e= .returned (.int .i64 (Lib.bitLen x.toNat))/\w'=w:=by
 go_enter func285,ntmps285
 go_wp2_with fail
 refine(CR x _ h0 h1).mono ?_
 rintro e w' ⟨rfl,rfl⟩
 go_wp2
 go_ret
 exact⟨rfl,rfl⟩
theorem JJ (n:Nat) (w:World) (h0:0< n) (h1:n<=65536):Calls prog 274 #[.int .i64 (n:Nat)] w fun e w'=>e= .returned (.tuple #[.int .i64 (up n:Nat),.int .i64 0])/\w'=w:=by
 have g:decide ((n:Int)< 1)=false:=decide_eq_false (by omega)
 have e1:IntKind.i64.wrap ((n:Int)-1)=((n-1:Nat):Int):=(KU _ (by omega)).trans (by omega)
 have e2:((n-1:Nat):Int).toNat=n-1:=by omega
 have e3:=Ey h1
 obtain⟨m,hm⟩:∃m,n-1=m:=⟨_,rfl⟩
 rw[hm]at e1 e2 e3
 have hm0:(0:Int)<=(m:Int):=by omega
 have hm1:(m:Int)<=65535:=by omega
 have HM:=KO hm
 have H2:=KO e2
 have H3:=KO e3
 clear hm e2 e3
 go_enter func274,ntmps274
 go_wp2_with fail
 refine(IU (m:Int) _ hm0 hm1).mono ?_
 rw[H2.out,H3.out]
 rintro e w' ⟨rfl,rfl⟩
 go_wp2
 refine KV (v:= .tuple #[.int .i64 (up n:Nat),.int .i64 0]) (by simp[results,results274,go_sem]) rfl ?_
 exact⟨rfl,rfl⟩
theorem lJ (A:Option Addr) (n c:Nat) (w:World) (h0:0< n) (h1:n<=65536):Calls prog 266 #[.agg #[.slice A n c]] w fun e w'=>e= .returned (.int .i64 (up n:Nat))/\Below w.heap.size w w':=by
 have hb:Below w.heap.size w (w.alloc (.cells #[.slice A n c] 145)):=(KR _ _).alloc (KS _) _
 go_enter func266,ntmps266
 go_wp2_with fail
 refine(JJ n _ h0 h1).mono ?_
 rintro e w' ⟨rfl,rfl⟩
 go_wp2
 go_ret
 exact⟨rfl,hb⟩
theorem uu {n:Nat} (h:2<=n):Lx n=Lx (n/2)+1:=by rw[Nat.log2_def n,if_pos h]
theorem lI {n:Nat} (h:n<=65536):Lx n<=16:=by
 by_cases h0:n=0
 ·subst h0;decide
 ·have:=Nat.log2_self_le h0
  rcases Nat.lt_or_ge 16 (Lx n)with h1|h1
  ·have h2:2 ^ 17<=2 ^ Lx n:=Lj (by omega) h1
   omega
  ·exact h1
theorem qJ (n:Nat) (w:World) (h1:n<=65536):Calls prog 133 #[.int .i64 (n:Nat)] w fun e w'=>e= .returned (.int .i64 (Lx n:Nat))/\w'=w:=by
 have hl:=lI h1
 go_enter func133,ntmps133
 go_wp2
 go_loopw [0,3] (fun x i wr=>∃m k:Nat,x= .int .i64 (m:Nat)/\i= .int .i64 (k:Nat)/\m<=n/\k<=16/\Hid (k+Lx m=Lx n)/\wr=w) (fun x _ _=>(intOf x).toNat)
 case atStart=>exact⟨n,0,rfl,rfl,KS _,K8 _,by show _=_;omega,rfl⟩
 case round=>
  obtain⟨m,k,rfl,rfl,hm,hk,hs,rfl⟩:=hrel
  by_cases h2:2<=m
  ·have g:decide ((m:Int)>1)=true:=decide_eq_true (by omega)
   have hh:=uu h2
   have hk2:k+1<=16:=by have:=hs.out;omega
   have HH:=KO hh
   clear hh
   go_wp2
   go_roundw
   case rel=>exact⟨m/2,k+1,by go_num,by go_num,by omega,hk2,by show _=_;have:=hs.out;have:=HH.out;omega,by first|rfl|trivial⟩
   case measure=>simp[intOf];omega
  ·have g:decide ((m:Int)>1)=false:=decide_eq_false (by omega)
   have h0:Lx m=0:=by
    rw[Nat.log2_def,if_neg h2]
   have e0:k=Lx n:=by have:=hs.out;omega
   have H0:=KO e0
   clear h0 e0
   go_wp2
   go_ret
   exact⟨aJ (by rw[H0.out]),by first|rfl|trivial⟩
theorem oh (n:Nat) (w:World) (h0:0< n) (h1:n<=65536):Calls prog 141 #[.int .i64 (n:Nat)] w fun e w'=>e= .returned (.int .i64 (up n:Nat))/\w'=w:=by
 by_cases h2:n=1
 ·subst h2
  go_enter func141,ntmps141
  go_wp2
  go_ret
  exact⟨rfl,rfl⟩
 ·have g:decide ((n:Int)=1)=false:=decide_eq_false (by omega)
  have g2:((n:Int)==1)=false:=by simpa using g
  have e1:IntKind.i64.wrap ((n:Int)-1)=((n-1:Nat):Int):=(KU _ (by omega)).trans (by omega)
  have e3:up n=Lx (n-1)+1:=by unfold up;rw[if_neg (by omega)]
  obtain⟨m,hm⟩:∃m,n-1=m:=⟨_,rfl⟩
  rw[hm]at e1 e3
  have hm1:m<=65536:=by omega
  have hl:=lI hm1
  have H3:=KO e3
  have HM:=KO hm
  clear e3 hm
  go_enter func141,ntmps141
  go_wp2_with fail
  refine(qJ m _ hm1).mono ?_
  rintro e w' ⟨rfl,rfl⟩
  go_wp2
  go_ret
  exact⟨aJ (by rw[H3.out];go_num),rfl⟩
def bv (b:Bool):Value:= .bool b
theorem Gy (A:Option Addr) (l:List Bool) (c:Nat) (w:World) (hA:Sl w A (l.map bv)) (hl:l.length<=1000000):
  Calls prog 206 #[.slice A l.length c] w fun r w'=>r= .returned (.bool (l.all id))/\w'=w:=by
 have HA:=KO hA
 obtain⟨V,hV⟩:∃V,l.all id=V:=⟨_,rfl⟩
 rw[hV]
 have HV:=KO hV
 clear hA hV
 go_enter func206,ntmps206
 go_wp2
 go_loopw [7] (fun i wr=>∃k:Nat,k<=l.length/\i= .int .i64 k/\wr=w/\Hid ((l.drop k).all id=V)) (fun i _=>l.length-(intOf i).toNat)
 case atStart=>exact⟨0,K8 _,rfl,rfl,by show _=_;rw[List.drop_zero];exact HV.out⟩
 case round=>
  obtain⟨k,hk,rfl,hw,hd⟩:=hrel
  have hw2:=hw.symm
  subst hw2
  by_cases hlt:k< l.length
  ·obtain⟨b,off,rfl,hbl,cp⟩:=HA.out.oneB (KR _ _) k hlt
   have hdr:(l.drop k).all id=(l[k]'hlt&&(l.drop (k+1)).all id):=by rw[List.drop_eq_getElem_cons hlt,List.all_cons];rfl
   obtain⟨e,he⟩:∃e,l[k]'hlt=e:=⟨_,rfl⟩
   rw[he]at cp hdr
   have cp1:w.cell? ⟨b,off+k,none⟩=some (.bool e):=cp
   have HDR:=KO hdr
   have i0:(0:Int)<=(k:Int):=by omega
   have i1:(k:Int)< (l.length:Int):=by omega
   clear cp hdr he
   cases e with
   |true=>
    go_wp2
    go_roundw
    case rel=>exact⟨k+1,by omega,by go_num,by first|trivial|rfl,by have:=hd.out;rw[HDR.out]at this;exact this⟩
    case measure=>simp[intOf];omega
   |false=>
    have HF:Hid (V=false):=by show _=_;rw[<-hd.out,HDR.out];rfl
    go_wp2
    go_ret
    exact⟨by rw[HF.out];rfl,rfl⟩
  ·have HF:Hid (V=true):=by show _=_;rw[<-hd.out,MG (by omega)];rfl
   go_wp2
   go_ret
   exact⟨by rw[HF.out];rfl,rfl⟩
def gU (n a b:Int):Bool:=decide (a<=n)&&decide (n<=b)&&pow2 n.toNat
theorem Ga:∀m:Nat,m<=512->0< m->(bits .and .i64 (m:Int) ((m:Int)-1)==0)=pow2 m:=by decide+kernel
theorem iG (n:Int) (w:World) (h1:n<=512):Calls prog 220 #[.int .i64 n] w fun r w'=>r= .returned (.bool (pow2 n.toNat))/\w'=w:=by
 by_cases hz:0< n
 ·have hb:=Ga n.toNat (by omega) (by omega)
  rw[LZ (by omega)]at hb
  have HB:=KO hb
  clear hb
  go_enter func220,ntmps220
  go_wp2
  go_ret
  exact⟨by rw[<-HB.out];rfl,rfl⟩
 ·have hn:n.toNat=0:=by omega
  rw[hn]
  clear hn
  go_enter func220,ntmps220
  go_wp2
  go_ret
  exact⟨rfl,rfl⟩
theorem mV (n a b:Int) (w:World) (h1:n<=b->n<=512):Calls prog 207 #[.int .i64 n,.int .i64 a,.int .i64 b] w fun r w'=>r= .returned (.bool (gU n a b))/\w'=w:=by
 obtain⟨V,hV⟩:∃V,gU n a b=V:=⟨_,rfl⟩
 rw[hV]
 have HV:=KO hV
 clear hV
 by_cases g1:a<=n
 ·by_cases g2:n<=b
  ·have HC:=KO (fun w=>iG n w (h1 g2))
   have HP:Hid (V=pow2 n.toNat):=by show _=_;rw[<-HV.out];unfold gU;rw[decide_eq_true g1,decide_eq_true g2];rfl
   go_enter func207,ntmps207
   go_wp2_with fail
   refine(HC.out _).mono ?_
   rw[<-HP.out]
   rintro e w1 ⟨rfl,hw⟩
   subst hw
   go_wp2
   go_ret
   exact⟨rfl,rfl⟩
  ·have HP:Hid (V=false):=by show _=_;rw[<-HV.out];unfold gU;rw[decide_eq_true g1,decide_eq_false g2];rfl
   go_enter func207,ntmps207
   go_wp2_with fail
   go_ret
   exact⟨by rw[HP.out];rfl,rfl⟩
 ·have HP:Hid (V=false):=by show _=_;rw[<-HV.out];unfold gU;rw[decide_eq_false g1];rfl
  go_enter func207,ntmps207
  go_wp2_with fail
  go_ret
  exact⟨by rw[HP.out];rfl,rfl⟩
def IZ (n0:Nat) (w:World) (g:Nat) (a:Act) (wr:World):Prop:=
 ∃(m k:Nat) (u1 u4 u5 u6 u7 u8 u9 u10 u11 u12:Value),a=⟨#[.int .i64 (m:Int),u1,.int .i64 (k:Int),.int .i64 0,u4,u5,u6,u7,u8,u9,u10,u11,u12],[]⟩/\wr=w/\g=m/\0< m/\m<=65536/\Hid (Lx m+k=Lx n0)
theorem oQ (n:Nat) (w:World) (h0:0< n) (h1:n<=65536):Calls prog 221 #[.int .i64 (n:Nat)] w fun r w'=>r= .returned (.tuple #[.int .i64 (Lx n:Nat),.int .i64 0])/\w'=w:=by
 have g0:¬(n:Int)< 1:=by omega
 have HI0:Hid (IZ n w n ⟨#[.int .i64 (n:Int),undef,.int .i64 ((0:Nat):Int),.int .i64 0,.int .i64 (n:Int),.bool false,undef,undef,undef,undef,undef,undef,undef],[]⟩ w):=⟨n,0,_,_,_,_,_,_,_,_,_,_,rfl,rfl,rfl,h0,h1,rfl⟩
 have HL16:=KO (lI h1)
 have HH:=KO h0
 clear h0
 go_enter func221,ntmps221
 go_wp2
 refine iB 0 (IZ n w) rfl ?pass ?first
 case pass=>
  clear HI0
  rintro m a' wr ⟨m',k,u1,u4,u5,u6,u7,u8,u9,u10,u11,u12,rfl,hw,rfl,hm0,hm6,hg⟩ K hK
  have hw2:=hw.symm
  subst hw2
  have HK:=KO hK
  clear hK hw
  have hk16:k<=16:=by have h1:=hg.out;have h2:=HL16.out;omega
  by_cases h2:2<=m
  ·have g1:(1:Int)< (m:Int):=by omega
   have g2:(m:Int).tdiv 2=((m/2:Nat):Int):=by rw[M4 (by omega)];omega
   have g3:IntKind.i64.wrap ((k:Int)+1)=((k+1:Nat):Int):=(KU _ (by omega)).trans (by omega)
   have g4:IntKind.i64.wrap ((m/2:Nat):Int)=((m/2:Nat):Int):=KU _ (by omega)
   have HG:Hid (Lx (m/2)+(k+1)=Lx n):=by show _=_;rw[<-hg.out,uu h2];omega
   have H2:=KO h2
   clear h2
   go_wp2
   go_step3
   refine⟨rfl,HK.out (m/2) _ _ ?_ ⟨m/2,k+1,u1,u4,u5,.int .i64 (m:Int),.bool true,.int .i64 (m:Int),.int .i64 ((m:Int)/2),.int .i64 (k:Int),.int .i64 ((k:Int)+1),u12,?_,rfl,rfl,?_,?_,HG.out⟩⟩
   ·have:=H2.out;omega
   ·simp
   ·have:=H2.out;omega
   ·omega
  ·have g1:¬(1:Int)< (m:Int):=by omega
   have HG:Hid (Lx n=k):=by
    show _=_
    have h3:m=1:=by omega
    subst h3
    rw[<-hg.out]
    simp[Nat.log2_def]
   clear h2
   go_wp2
   simp only[Exit.jump]
   refine KV (v:= .tuple #[.int .i64 (k:Int),.int .i64 0]) (by simp[results,results221,go_sem]) rfl ?_
   exact⟨by rw[HG.out],rfl⟩
 case first=>
  rintro K hK
  have HK:=KO hK
  clear hK
  go_wp2
  go_step3
  rename_i hk
  exact hk _ _ (HK.out _ _ _ ⟨n,0,_,_,_,_,_,_,_,_,_,_,rfl,rfl,rfl,HH.out,h1,rfl⟩)
abbrev Cfg.row (c:Cfg):Array Value:=#[.int .u8 c.tag,.int .i64 c.most,.int .i64 c.seg,.int .i64 c.least,.int .i64 c.den,.int .i64 c.leafLow,.int .i64 c.rootLow,.int .i64 c.rootHigh,.int .i64 c.leafHigh]
structure TakeS (c:Cfg) (n d h l:Nat):Prop where
 den:c.den=d
 high:c.rootHigh=h
 least:c.least=l
 n1:0< n
 n2:n<=16384
 d1:0< d
 d2:d<=64
 dh:d<=2*h
 h2:h<=64
 l1:4<=l
 l2:l<=256
theorem wE {x:Nat} (h:x<=65536):eG (x:Int)=true:=by unfold eG;rw[decide_eq_true (by omega),decide_eq_true (by omega)];rfl
theorem G7 (n s h d:Nat):decide (0< zg ((n:Int)*(d:Int)-(s:Int)*(h:Int)))=decide (h*s< n*d):=by
 have e1:((n:Int)*(d:Int))=((n*d:Nat):Int):=by simp
 have e2:((s:Int)*(h:Int))=((h*s:Nat):Int):=by rw[Nat.mul_comm h s];simp
 rw[e1,e2]
 generalize n*d=p
 generalize h*s=q
 unfold zg
 by_cases hq:q< p
 ·rw[if_pos (by omega),decide_eq_true hq];rfl
 ·rw[if_neg (by omega),decide_eq_false hq]
  split <;> rfl
def JO (c:Cfg) (n T:Nat) (w:World) (g:Nat) (a:Act) (wr:World):Prop:=
 ∃(s:Nat) (u3 u6 u7 u8 u9 u10 u11 u12 u13 u14 u15 u16 u17 u18 u19 u20 u21 u22 u23 u24:Value),a=⟨#[.agg #[.int .u8 c.tag,.int .i64 c.most,.int .i64 c.seg,.int .i64 c.least,.int .i64 c.den,.int .i64 c.leafLow,.int .i64 c.rootLow,.int .i64 c.rootHigh,.int .i64 c.leafHigh],.int .i64 (n:Int),.pointer (some ⟨w.heap.size,0,none⟩),u3,.int .i64 0,.int .i64 (s:Int),u6,u7,u8,u9,u10,u11,u12,u13,u14,u15,u16,u17,u18,u19,u20,u21,u22,u23,u24],[]⟩/\Below w.heap.size w wr/\Blk wr w.heap.size 24 c.row/\Hid (∃d h l,TakeS c n d h l/\Fits n d h g s/\fB n d h g s=T)
theorem uP (c:Cfg) (n d h l:Nat) (w:World) (hs:TakeS c n d h l):
  Calls prog 209 #[.agg c.row,.int .i64 (n:Nat)] w fun r w'=>r= .returned (.int .i64 (fO n d h l:Nat))/\Below w.heap.size w w':=by
 obtain⟨T,hT⟩:∃T,fO n d h l=T:=⟨_,rfl⟩
 rw[hT]
 have HT:Hid (∃d' h' l',TakeS c n d' h' l'/\Fits n d' h' 16 l/\fB n d' h' 16 l=T):=⟨d,h,l,hs,jX hs.n2 hs.dh (by have:=hs.l1;omega) hs.l2,hT⟩
 have HLE:=KO (show c.least=(l:Int)from hs.least)
 clear hT hs
 obtain⟨W0,hW0⟩:∃W0,w.alloc (.cells c.row 24)=W0:=⟨_,rfl⟩
 have hb0:Below w.heap.size w W0:=by rw[<-hW0];exact(KR _ _).alloc (KS _) _
 have b0:Blk W0 w.heap.size 24 c.row:=by rw[<-hW0];exact Blk.new _ _ _
 have HW0:=KO hW0
 clear hW0
 go_enter func209,ntmps209
 go_wp2
 rw[HW0.out]
 refine iB 0 (JO c n T w) rfl ?pass ?first
 case pass=>
  clear HT
  rintro g a' wr ⟨s,u3,u6,u7,u8,u9,u10,u11,u12,u13,u14,u15,u16,u17,u18,u19,u20,u21,u22,u23,u24,rfl,hb,bC,hI⟩ K hK
  have HK:=KO hK
  obtain⟨d,h,l,hs,hf,hTT⟩:=hI.out
  have HS:=KO hs
  have HF:=KO hf
  have HTT:=KO hTT
  have c4:wr.cell? ⟨w.heap.size,4,none⟩=some (.int .i64 (d:Int)):=(bC.cell 4).trans (by rw[<-hs.den];rfl)
  have c7:wr.cell? ⟨w.heap.size,7,none⟩=some (.int .i64 (h:Int)):=(bC.cell 7).trans (by rw[<-hs.high];rfl)
  have hx:=fun W=>uT (n:Int) (s:Int) (h:Int) (d:Int) W (wE (by have:=hs.n2;omega)) (wE hf.le) (wE (by have:=hs.h2;omega)) (wE (by have:=hs.d2;omega))
  have ho:=G7 n s h d
  obtain⟨V,hV⟩:∃V,zg ((n:Int)*(d:Int)-(s:Int)*(h:Int))=V:=⟨_,rfl⟩
  rw[hV]at ho hx
  have HX:=KO hx
  have hs6:=hf.le
  have HO:=KO ho
  have HB:=KO hb
  have HC:=KO bC
  clear hK hI hx hs hf hTT ho hV hb bC
  go_wp2_with fail
  refine(HX.out _).mono ?_
  rintro e w1 ⟨rfl,hb1⟩
  have HB1:=KO (aa HB.out hb1)
  have HC1:=KO (HC.out.below hb1 HC.out.lt)
  clear c4 c7 hb1
  by_cases hgo:h*s< n*d
  ·have g1:(0:Int)< V:=by have:=HO.out;rw[decide_eq_true hgo]at this;exact of_decide_eq_true this
   have g2:IntKind.i64.wrap ((s:Int)*2)=((2*s:Nat):Int):=(KU _ (by omega)).trans (by omega)
   obtain⟨k',hk',ht',hf'⟩:=nA HF.out hgo HS.out.n2 HS.out.dh
   have HK2:Hid (k'< g):=by show _< _;omega
   have HN:Hid (∃d h l,TakeS c n d h l/\Fits n d h k' (2*s)/\fB n d h k' (2*s)=T):=⟨d,h,l,HS.out,hf',by rw[<-ht',HTT.out]⟩
   clear hgo hk' ht' hf'
   go_wp2_with fail
   go_step3
   refine⟨rfl,HK.out k' _ _ HK2.out ⟨2*s,u3,.int .i64 V,.int .i64 0,u8,u9,.tuple #[.int .i64 V,.int .i64 0],.int .i64 (n:Int),.int .i64 (s:Int),.pointer (some ⟨w.heap.size,7,none⟩),.int .i64 (h:Int),.pointer (some ⟨w.heap.size,4,none⟩),.int .i64 (d:Int),.tuple #[.int .i64 V,.int .i64 0],.int .i64 V,.int .i64 0,.int .i64 V,.bool true,.int .i64 (s:Int),.int .i64 (2*(s:Int)),u24,?_,HB1.out,HC1.out,HN⟩⟩
   simp
  ·have g1:¬(0:Int)< V:=by have:=HO.out;rw[decide_eq_false hgo]at this;exact of_decide_eq_false this
   have HV:Hid (T=s):=by show _=_;rw[<-HTT.out,pu hgo]
   clear hgo
   go_wp2_with fail
   simp only[Exit.jump]
   refine KV (v:= .int .i64 (s:Int)) (by simp[results,results209,go_sem]) rfl ?_
   exact⟨by rw[HV.out],HB1.out⟩
 case first=>
  rintro K hK
  have HK:=KO hK
  have c3:W0.cell? ⟨w.heap.size,3,none⟩=some (.int .i64 (l:Int)):=(b0.cell 3).trans (by rw[<-HLE.out];rfl)
  have HB0:=KO hb0
  have HC0:=KO b0
  clear hK b0 hb0
  go_wp2_with fail
  go_step3
  rename_i hk
  exact hk _ _ (HK.out 16 _ _ ⟨l,_,_,_,_,_,_,_,_,_,_,_,_,_,_,_,_,_,_,_,_,rfl,HB0.out,HC0.out,HT⟩)
theorem qX (c:Cfg) (s g:Nat) (w:World) (hg:c.seg=(g:Int)) (hs:s<=65536) (h0:0< g) (h1:g<=s):
  Calls prog 208 #[.agg c.row,.int .i64 (s:Nat)] w fun r w'=>r= .returned (.int .i64 (Lx (s/g):Nat))/\Below w.heap.size w w':=by
 obtain⟨W0,hW0⟩:∃W0,w.alloc (.cells c.row 24)=W0:=⟨_,rfl⟩
 have hb0:Below w.heap.size w W0:=by rw[<-hW0];exact(KR _ _).alloc (KS _) _
 have b0:Blk W0 w.heap.size 24 c.row:=by rw[<-hW0];exact Blk.new _ _ _
 have HW0:=KO hW0
 have c2:W0.cell? ⟨w.heap.size,2,none⟩=some (.int .i64 (g:Int)):=(b0.cell 2).trans (by rw[<-hg];rfl)
 have hq:(s:Int).tdiv (g:Int)=((s/g:Nat):Int):=by rw[M4 (by omega)];exact(M3 s g).symm
 have hd1:0< s/g:=Nat.div_pos h1 h0
 have hd2:s/g<=s:=Na s g
 have hz:¬(g:Int)=0:=by omega
 obtain⟨Q,hQ⟩:∃Q,s/g=Q:=⟨_,rfl⟩
 rw[hQ]at hq hd1 hd2 ⊢
 have hw:IntKind.i64.wrap (Q:Int)=(Q:Int):=KU _ (by omega)
 have HD:=KO (fun W=>oQ Q W hd1 (by omega))
 clear hW0 hQ b0 hg h1
 go_enter func208,ntmps208
 go_upto_region 1 with fail
 rw[HW0.out]
 go_wp2_with fail
 refine(HD.out _).mono ?_
 rintro e w1 ⟨rfl,hw1⟩
 subst hw1
 go_wp2
 go_ret
 exact⟨rfl,hb0⟩
def iH (c:Cfg):List Bool:=[decide (1<=c.tag),decide (c.tag<=3),decide (1<=c.most),decide (c.most<=16384),gU c.seg 4 64,gU c.least c.seg 256,decide (1<=c.den),decide (c.den<=64)]
def jm (c:Cfg):List Bool:=[decide (0<=c.leafLow),decide (c.leafLow< c.rootLow),decide (c.rootLow< c.rootHigh),decide (c.rootHigh< c.leafHigh),decide (c.leafHigh<=c.den)]
def mi (c:Cfg):List Bool:=[decide (c.den<=2*c.rootHigh),decide (8*c.rootLow<=c.den),decide (2*c.den<=c.rootLow*c.least)]
def GJ (c:Cfg):Bool:=decide (c.den*(c.tall:Int)<=(c.leafHigh-c.rootHigh)*c.seg)
def lW (c:Cfg):Bool:=(iH c).all id&&(jm c).all id&&(mi c).all id&&GJ c
def iP (c:Cfg):Int:=if lW c=true then 0 else 50
theorem sj (A:Option Addr) (l:List Bool) (c:Nat) (w:World) (hA:Sl w A (l.map bv)) (hl:l.length<=1000000):
  Calls prog 206 #[.slice A l.length c] w fun r w'=>r= .returned (.bool (l.all id))/\Below w.heap.size w w':=
 (Gy A l c w hA hl).mono (fun _ _ h=>⟨h.1,h.2 ▸ KR _ _⟩)
theorem mM (c:Cfg) (w:World):Calls prog 196 #[.agg c.row] w fun r w'=>r= .returned (.int .i64 (iP c))/\Below w.heap.size w w':=by
 obtain⟨W0,hW0⟩:∃W0,w.alloc (.cells c.row 24)=W0:=⟨_,rfl⟩
 have hb0:Below w.heap.size w W0:=by rw[<-hW0];exact(KR _ _).alloc (KS _) _
 have b0:Blk W0 w.heap.size 24 c.row:=by rw[<-hW0];exact Blk.new _ _ _
 have HW0:=KO hW0
 have HB0:=KO hb0
 have HC0:=KO b0
 have hp1:=fun W=>(mV c.seg 4 64 W (by omega)).mono (R':=fun r w'=>r= .returned (.bool (gU c.seg 4 64))/\Below W.heap.size W w') (fun r w' h=>⟨h.1,h.2 ▸ KR _ _⟩)
 have hp2:=fun W=>(mV c.least c.seg 256 W (by omega)).mono (R':=fun r w'=>r= .returned (.bool (gU c.least c.seg 256))/\Below W.heap.size W w') (fun r w' h=>⟨h.1,h.2 ▸ KR _ _⟩)
 obtain⟨t4,h4⟩:∃t,gU c.seg 4 64=t:=⟨_,rfl⟩
 obtain⟨t5,h5⟩:∃t,gU c.least c.seg 256=t:=⟨_,rfl⟩
 rw[h4]at hp1
 rw[h5]at hp2
 have HS1:=KO (show[decide (1<=c.tag),decide (c.tag<=3),decide (1<=c.most),decide (c.most<=16384),t4,t5,decide (1<=c.den),decide (c.den<=64)].all id=(iH c).all id by unfold iH;rw[h4,h5])
 obtain⟨S1,hS1⟩:∃S,(iH c).all id=S:=⟨_,rfl⟩
 rw[hS1]at HS1
 have HZ1:=KO hS1
 have HP1:=KO hp1
 have HP2:=KO hp2
 have H4:=KO h4
 have H5:=KO h5
 clear hW0 hb0 hp1 hp2 h4 h5 hS1
 have q0:=b0.cell
 have i0:=b0.lt
 clear b0
 go_enter func196,ntmps196
 go_upto_region 1 with fail
 rw[HW0.out]
 go_cut [3]from 5 to 32 (fun v wx=>v= .bool S1/\Below W0.heap.size W0 wx)
 case first=>
  go_region_held3 (fun w'=>(∀bq jq,bq< W0.heap.size->w'.cell? ⟨bq,jq,none⟩=W0.cell? ⟨bq,jq,none⟩)/\(∀bq jq,bq< W0.heap.size->w'.frozen? ⟨bq,jq,none⟩=W0.frozen? ⟨bq,jq,none⟩)/\W0.heap.size<=w'.heap.size/\Below W0.heap.size W0 w') ((with_reducible first|exact SB.init|exact SB.init0|exact SB.alloc _ (by assumption)|exact SB.allocD _ (by assumption)|exact SB.below (by assumption) (by assumption)|assumption))
   (first
    |(have hx:=hv21;go_at_call 207;refine(HP2.out _).mono ?_;rintro e22 v22 ⟨rfl,hv22⟩;have hl22:=SB.le hv22 (by assumption);obtain⟨hc22,hz22,hs22⟩:=dE hv22)
    |(go_at_call 207;refine(HP1.out _).mono ?_;rintro e21 v21 ⟨rfl,hv21⟩;have hl21:=SB.le hv21 (by assumption);obtain⟨hc21,hz21,hs21⟩:=dE hv21)
    |(go_at_call 207;refine(HP2.out _).mono ?_;rintro e23 v23 ⟨rfl,hv23⟩;have hl23:=SB.le hv23 (by assumption);obtain⟨hc23,hz23,hs23⟩:=dE hv23)
    |(go_at_call 206;refine(sj _ [decide (1<=c.tag),decide (c.tag<=3),decide (1<=c.most),decide (c.most<=16384),t4,t5,decide (1<=c.den),decide (c.den<=64)] 8 _ (by exact df _ _ _) (by simp)).mono ?_;rw[HS1.out];rintro e24 v24 ⟨rfl,hv24⟩;have hl24:=SB.le hv24 (by assumption);obtain⟨hc24,hz24,hs24⟩:=dE hv24)
    |fail "no arm")
  all_goals
   go_wp2_with fail
   go_meet
   exact⟨by simp,SB.bel (by assumption)⟩
 case rest=>
  obtain⟨rfl,hb1⟩:=hcut
  rename_i hk
  refine hk _ _ ?_
  have HB1:=KO (aa HB0.out hb1)
  have bC1:=HC0.out.below hb1 HC0.out.lt
  have HC1:=KO bC1
  clear hk hb1 q0 i0 HP1 HP2 HS1
  have q0:=bC1.cell
  clear bC1
  go_wp2_with fail
  refine(sj _ [decide (0<=c.leafLow),decide (c.leafLow< c.rootLow),decide (c.rootLow< c.rootHigh),decide (c.rootHigh< c.leafHigh),decide (c.leafHigh<=c.den)] 5 _ (by exact df _ _ _) (by simp)).mono ?_
  obtain⟨S2,hS2⟩:∃S,(jm c).all id=S:=⟨_,rfl⟩
  have hS2':=hS2
  unfold jm at hS2'
  rw[hS2']
  have HZ2:=KO hS2
  clear hS2 hS2'
  have ha1:Below wc.heap.size wc (wc.alloc (.cells #[.bool (decide (0<=c.leafLow)),.bool (decide (c.leafLow< c.rootLow)),.bool (decide (c.rootLow< c.rootHigh)),.bool (decide (c.rootHigh< c.leafHigh)),.bool (decide (c.leafHigh<=c.den))] 4)):=(KR _ _).alloc (KS _) _
  rintro e w2 ⟨rfl,hb2⟩
  have HB2:=KO (aa HB1.out (aa ha1 hb2))
  have HC2:=KO (HC1.out.below (aa ha1 hb2) HC1.out.lt)
  clear ha1 hb2 q0
  cases hs1:S1 with
  |false=>
   have HE:Hid (iP c=50):=by show _=_;unfold iP lW;rw[HZ1.out,hs1];rfl
   go_wp2_with fail
   go_ret
   exact⟨by rw[HE.out];rfl,HB2.out⟩
  |true=>
  subst hs1
  cases hs2:S2 with
  |false=>
   have HE:Hid (iP c=50):=by show _=_;unfold iP lW;rw[HZ1.out,HZ2.out,hs2];rfl
   go_wp2_with fail
   go_ret
   exact⟨by rw[HE.out];rfl,HB2.out⟩
  |true=>
  subst hs2
  have hb:=HZ1.out
  have hb':=HZ2.out
  simp only[iH,jm,gU,List.all_cons,List.all_nil,id,Lm,decide_eq_true_eq,Bool.and_true]at hb hb'
  obtain⟨hx1,hx2,hx3,hx4,⟨⟨hx5,hx6⟩,hx7⟩,⟨⟨hx8,hx9⟩,hx10⟩,hx11,hx12⟩:=hb
  obtain⟨hy1,hy2,hy3,hy4,hy5⟩:=hb'
  have hz1:IntKind.i64.wrap (2*c.rootHigh)=2*c.rootHigh:=KU _ (by omega)
  have hz2:IntKind.i64.wrap (8*c.rootLow)=8*c.rootLow:=KU _ (by omega)
  have hz3:IntKind.i64.wrap (2*c.den)=2*c.den:=KU _ (by omega)
  have hm:0<=c.rootLow*c.least/\c.rootLow*c.least<=16384:=by
   have h1:0<=c.rootLow:=by omega
   have h2:c.rootLow<=64:=by omega
   refine⟨Int.mul_nonneg h1 (by omega),?_⟩
   have:=Int.mul_le_mul h2 hx9 (by omega) (by omega)
   omega
  have hz4:IntKind.i64.wrap (c.rootLow*c.least)=c.rootLow*c.least:=KU _ (by omega)
  have HX:=KO (show(1<=c.most/\c.most<=16384)/\(4<=c.seg/\c.seg<=64)/\(c.seg<=c.least/\c.least<=256)/\(1<=c.den/\c.den<=64)from⟨⟨hx3,hx4⟩,⟨hx5,hx6⟩,⟨hx8,hx9⟩,hx11,hx12⟩)
  have HY:=KO (show 0<=c.leafLow/\c.leafLow< c.rootLow/\c.rootLow< c.rootHigh/\c.rootHigh< c.leafHigh/\c.leafHigh<=c.den from⟨hy1,hy2,hy3,hy4,hy5⟩)
  clear hx1 hx2 hx3 hx4 hx5 hx6 hx7 hx8 hx9 hx10 hx11 hx12 hy1 hy2 hy3 hy4 hy5 hm
  have bC2:=HC2.out
  have q0:=bC2.cell
  clear bC2
  go_wp2_with fail
  refine(sj _ [decide (c.den<=2*c.rootHigh),decide (8*c.rootLow<=c.den),decide (2*c.den<=c.rootLow*c.least)] 3 _ (by exact df _ _ _) (by simp)).mono ?_
  obtain⟨S3,hS3⟩:∃S,(mi c).all id=S:=⟨_,rfl⟩
  have hS3':=hS3
  unfold mi at hS3'
  rw[hS3']
  have HZ3:=KO hS3
  clear hS3 hS3' hz1 hz2 hz3 hz4
  have ha1:Below w2.heap.size w2 (w2.alloc (.cells #[.bool (decide (c.den<=2*c.rootHigh)),.bool (decide (8*c.rootLow<=c.den)),.bool (decide (2*c.den<=c.rootLow*c.least))] 4)):=(KR _ _).alloc (KS _) _
  rintro e w3 ⟨rfl,hb3⟩
  have HB3:=KO (aa HB2.out (aa ha1 hb3))
  have HC3:=KO (HC2.out.below (aa ha1 hb3) HC2.out.lt)
  clear ha1 hb3 q0
  cases hs3:S3 with
  |false=>
   have HE:Hid (iP c=50):=by show _=_;unfold iP lW;rw[HZ1.out,HZ2.out,HZ3.out,hs3];rfl
   go_wp2_with fail
   go_ret
   exact⟨by rw[HE.out];rfl,HB3.out⟩
  |true=>
  subst hs3
  have hb:=HZ3.out
  simp only[mi,List.all_cons,List.all_nil,id,Lm,decide_eq_true_eq,Bool.and_true]at hb
  obtain⟨hr1,hr2,hr3⟩:=hb
  obtain⟨⟨hx3,hx4⟩,⟨hx5,hx6⟩,⟨hx8,hx9⟩,hx11,hx12⟩:=HX.out
  obtain⟨hy1,hy2,hy3,hy4,hy5⟩:=HY.out
  have hts:TakeS c c.most.toNat c.den.toNat c.rootHigh.toNat c.least.toNat:=⟨(LZ (by omega)).symm,(LZ (by omega)).symm,(LZ (by omega)).symm,by omega,by omega,by omega,by omega,by omega,by omega,by omega,by omega⟩
  have htl:=xu (n:=c.most.toNat) (den:=c.den.toNat) (high:=c.rootHigh.toNat) hts.n2 hts.dh (jX (s:=c.least.toNat) hts.n2 hts.dh (by have:=hts.l1;omega) hts.l2)
  have htk:=fun W=>uP c c.most.toNat c.den.toNat c.rootHigh.toNat c.least.toNat W hts
  have htall:c.tall=Lx (fO c.most.toNat c.den.toNat c.rootHigh.toNat c.least.toNat/c.seg.toNat):=rfl
  have htl2:fO c.most.toNat c.den.toNat c.rootHigh.toNat c.least.toNat<=65536/\c.least.toNat<=fO c.most.toNat c.den.toNat c.rootHigh.toNat c.least.toNat:=htl
  obtain⟨T,hT⟩:∃T,fO c.most.toNat c.den.toNat c.rootHigh.toNat c.least.toNat=T:=⟨_,rfl⟩
  rw[hT]at htk htall htl2
  rw[LZ (by omega:0<=c.most)]at htk
  have hht:=fun W=>qX c T c.seg.toNat W (LZ (by omega)).symm htl2.1 (by omega) (by omega)
  rw[<-htall]at hht
  obtain⟨t,ht⟩:∃t,c.tall=t:=⟨_,rfl⟩
  rw[ht]at hht htall
  have ht16:t<=16:=by
   rw[htall]
   exact lI (KY (Na _ _) htl2.1)
  have hm1:0<=c.den*(t:Int)/\c.den*(t:Int)<=1024:=by
   refine⟨Int.mul_nonneg (by omega) (by omega),?_⟩
   have:=Int.mul_le_mul hx12 (show(t:Int)<=16 by omega) (by omega) (by omega)
   omega
  have hm2:0<=(c.leafHigh-c.rootHigh)*c.seg/\(c.leafHigh-c.rootHigh)*c.seg<=4096:=by
   refine⟨Int.mul_nonneg (by omega) (by omega),?_⟩
   have:=Int.mul_le_mul (show c.leafHigh-c.rootHigh<=64 by omega) hx6 (by omega) (by omega)
   omega
  have hz1:IntKind.i64.wrap (c.leafHigh-c.rootHigh)=c.leafHigh-c.rootHigh:=KU _ (by omega)
  have hz2:IntKind.i64.wrap ((c.leafHigh-c.rootHigh)*c.seg)=(c.leafHigh-c.rootHigh)*c.seg:=KU _ (by omega)
  have hz3:IntKind.i64.wrap (c.den*(t:Int))=c.den*(t:Int):=KU _ (by omega)
  have HE:Hid (iP c=if (c.leafHigh-c.rootHigh)*c.seg< c.den*(t:Int)then 50 else 0):=by
   show _=_
   unfold iP lW GJ
   rw[HZ1.out,HZ2.out,HZ3.out,ht]
   by_cases h:(c.leafHigh-c.rootHigh)*c.seg< c.den*(t:Int)
   ·rw[if_pos h,decide_eq_false (by omega)];rfl
   ·rw[if_neg h,decide_eq_true (by omega)];rfl
  have HTK:=KO htk
  have HHT:=KO hht
  clear hts htl htk htall htl2 hT hht ht hr1 hr2 hr3 hx3 hx4 hx5 hx6 hx8 hx9 hx11 hx12 hy1 hy2 hy3 hy4 hy5 hm1 hm2 ht16
  have bC3:=HC3.out
  have q0:=bC3.cell
  have i3:=bC3.lt
  clear bC3
  go_upto_region 5 with fail
  go_cut [107]from 90 to 107 (fun v wx=>v= .bool (decide ((c.leafHigh-c.rootHigh)*c.seg< c.den*(t:Int)))/\Below w3.heap.size w3 wx)
  case first=>
   go_region_held3 (fun w'=>(∀bq jq,bq< w3.heap.size->w'.cell? ⟨bq,jq,none⟩=w3.cell? ⟨bq,jq,none⟩)/\(∀bq jq,bq< w3.heap.size->w'.frozen? ⟨bq,jq,none⟩=w3.frozen? ⟨bq,jq,none⟩)/\w3.heap.size<=w'.heap.size/\Below w3.heap.size w3 w') ((with_reducible first|exact SB.init|exact SB.init0|exact SB.alloc _ (by assumption)|exact SB.allocD _ (by assumption)|exact SB.below (by assumption) (by assumption)|assumption))
    (first
     |(go_at_call 209;refine(HTK.out _).mono ?_;rintro e21 v21 ⟨rfl,hv21⟩;have hl21:=SB.le hv21 (by assumption);obtain⟨hc21,hz21,hs21⟩:=dE hv21)
     |(go_at_call 208;refine(HHT.out _).mono ?_;rintro e22 v22 ⟨rfl,hv22⟩;have hl22:=SB.le hv22 (by assumption);obtain⟨hc22,hz22,hs22⟩:=dE hv22)
     |fail "no arm")
   all_goals
    go_wp2_with fail
    go_meet
    exact⟨by simp,SB.bel (by assumption)⟩
  case rest=>
   obtain⟨rfl,hb4⟩:=hcut
   have HB4:=KO (aa HB3.out hb4)
   clear hb4 q0
   by_cases hlt:(c.leafHigh-c.rootHigh)*c.seg< c.den*(t:Int)
   ·rw[decide_eq_true hlt]
    have HV:Hid (iP c=50):=by show _=_;rw[HE.out,if_pos hlt]
    clear hlt
    go_wp2_with fail
    go_ret
    exact⟨by rw[HV.out];rfl,HB4.out⟩
   ·rw[decide_eq_false hlt]
    have HV:Hid (iP c=0):=by show _=_;rw[HE.out,if_neg hlt]
    clear hlt
    go_wp2_with fail
    go_ret
    exact⟨by rw[HV.out];rfl,HB4.out⟩
theorem jO (k:Nat) (w:World) (hk:k<=16):Calls prog 154 #[.int .i64 (k:Nat)] w fun r w'=>r= .returned (.int .i64 ((2 ^ k:Nat):Int))/\w'=w:=by
 obtain⟨R,hR⟩:∃R,2 ^ k=R:=⟨_,rfl⟩
 rw[hR]
 have HR:=KO hR
 clear hR
 go_enter func154,ntmps154
 go_wp2
 go_loopw [3,4] (fun n i wr=>∃j p:Nat,j<=k/\i= .int .i64 j/\n= .int .i64 (p:Int)/\wr=w/\Hid (2 ^ j=p)) (fun _ i _=>k-(intOf i).toNat)
 case atStart=>exact⟨0,1,K8 _,rfl,rfl,rfl,rfl⟩
 case round=>
  obtain⟨j,p,hj,rfl,rfl,hw,hp⟩:=hrel
  have hw2:=hw.symm
  subst hw2
  by_cases hlt:j< k
  ·have hp1:2 ^ j<=2 ^ 16:=Lj (by omega) (by omega)
   have hp2:p<=65536:=by rw[hp.out]at hp1;omega
   have hpn:Hid (2 ^ (j+1)=2*p):=by show _=_;rw[Nat.pow_succ,hp.out];omega
   have hwr:IntKind.i64.wrap (2*(p:Int))=((2*p:Nat):Int):=(KU _ (by omega)).trans (by omega)
   have i1:(j:Int)< (k:Int):=by omega
   clear hp1
   go_wp2
   go_roundw
   case rel=>exact⟨j+1,2*p,by omega,by go_num,rfl,by first|trivial|rfl,hpn⟩
   case measure=>simp[intOf];omega
  ·have hjk:j=k:=by omega
   subst hjk
   have i1:¬(j:Int)< (j:Int):=by omega
   go_wp2
   go_ret
   have hRp:R=p:=by rw[<-HR.out,hp.out]
   exact⟨by rw[hRp];rfl,rfl⟩
theorem kH (n:Int) (w:World) (h1:n<=512):Calls prog 159 #[.int .i64 n] w fun r w'=>r= .returned (.bool (pow2 n.toNat))/\w'=w:=by
 by_cases hz:1<=n
 ·obtain⟨m,rfl⟩:∃m:Nat,n=(m:Int):=⟨n.toNat,(LZ (by omega)).symm⟩
  have hlg:=fun W=>qJ m W (by omega)
  have hl16:=lI (n:=m) (by omega)
  have hpw:=fun W=>jO (Lx m) W hl16
  have hP:pow2 ((m:Int)).toNat=decide (((2 ^ Lx m:Nat):Int)=(m:Int)):=by
   unfold pow2
   rw[Int.toNat_natCast,decide_eq_true (by omega),Bool.true_and]
   by_cases h:2 ^ Lx m=m
   ·rw[decide_eq_true h,decide_eq_true (by omega)]
   ·rw[decide_eq_false h,decide_eq_false (by omega)]
  rw[hP]
  obtain⟨L,hL⟩:∃L,Lx m=L:=⟨_,rfl⟩
  rw[hL]at hlg hpw
  rw[hL]
  obtain⟨q,hq⟩:∃q,2 ^ L=q:=⟨_,rfl⟩
  rw[hq]at hpw
  rw[hq]
  obtain⟨V,hV⟩:∃V,decide ((q:Int)=(m:Int))=V:=⟨_,rfl⟩
  rw[hV]
  have HV:=KO hV
  clear hV
  have HLG:=KO hlg
  have HPW:=KO hpw
  clear hlg hpw hP hL hq hl16
  go_enter func159,ntmps159
  go_wp2_with fail
  refine(HLG.out _).mono ?_
  rintro e w1 ⟨rfl,hw1⟩
  subst hw1
  go_wp2_with fail
  refine(HPW.out _).mono ?_
  rintro e w2 ⟨rfl,hw2⟩
  subst hw2
  by_cases hqm:(q:Int)=(m:Int)
  ·have hqm2:((q:Int)==(m:Int))=true:=by simpa using hqm
   have HT:Hid (V=true):=by show _=_;rw[<-HV.out,decide_eq_true hqm]
   clear hqm
   go_wp2_with fail
   go_ret
   exact⟨by rw[HT.out];rfl,rfl⟩
  ·have hqm2:((q:Int)==(m:Int))=false:=by simpa using hqm
   have HT:Hid (V=false):=by show _=_;rw[<-HV.out,decide_eq_false hqm]
   clear hqm
   go_wp2_with fail
   go_ret
   exact⟨by rw[HT.out];rfl,rfl⟩
 ·have hP:pow2 n.toNat=false:=by unfold pow2;rw[show n.toNat=0 from Int.toNat_of_nonpos (by omega)];rfl
  rw[hP]
  go_enter func159,ntmps159
  go_wp2_with fail
  go_ret
  exact⟨rfl,rfl⟩
theorem lh (n a b:Int) (w:World) (h1:n<=b->n<=512):Calls prog 137 #[.int .i64 n,.int .i64 a,.int .i64 b] w fun r w'=>r= .returned (.bool (gU n a b))/\w'=w:=by
 by_cases hz1:a<=n
 ·by_cases hz2:n<=b
  ·have hp:=fun W=>kH n W (h1 hz2)
   have hB:gU n a b=pow2 n.toNat:=by unfold gU;rw[decide_eq_true hz1,decide_eq_true hz2];simp
   rw[hB]
   obtain⟨V,hV⟩:∃V,pow2 n.toNat=V:=⟨_,rfl⟩
   rw[hV]at hp
   rw[hV]
   have HP:=KO hp
   clear hp hB hV
   go_enter func137,ntmps137
   go_wp2_with fail
   refine(HP.out _).mono ?_
   rintro e w1 ⟨rfl,hw1⟩
   subst hw1
   go_wp2_with fail
   go_ret
   exact⟨rfl,rfl⟩
  ·have hB:gU n a b=false:=by unfold gU;rw[decide_eq_false hz2];simp
   rw[hB]
   go_enter func137,ntmps137
   go_wp2_with fail
   go_ret
   exact⟨rfl,rfl⟩
 ·have hB:gU n a b=false:=by unfold gU;rw[decide_eq_false hz1];simp
  rw[hB]
  go_enter func137,ntmps137
  go_wp2_with fail
  go_ret
  exact⟨rfl,rfl⟩
theorem iw (c:Cfg) (s g:Nat) (w:World) (hg:c.seg=(g:Int)) (hs:s<=65536) (h0:0< g) (h1:g<=s):
  Calls prog 138 #[.agg c.row,.int .i64 (s:Nat)] w fun r w'=>r= .returned (.int .i64 (Lx (s/g):Nat))/\Below w.heap.size w w':=by
 obtain⟨W0,hW0⟩:∃W0,w.alloc (.cells c.row 24)=W0:=⟨_,rfl⟩
 have hb0:Below w.heap.size w W0:=by rw[<-hW0];exact(KR _ _).alloc (KS _) _
 have b0:Blk W0 w.heap.size 24 c.row:=by rw[<-hW0];exact Blk.new _ _ _
 have HW0:=KO hW0
 have c2:W0.cell? ⟨w.heap.size,2,none⟩=some (.int .i64 (g:Int)):=(b0.cell 2).trans (by rw[<-hg];rfl)
 have hq:(s:Int).tdiv (g:Int)=((s/g:Nat):Int):=by rw[M4 (by omega)];exact(M3 s g).symm
 have hd1:0< s/g:=Nat.div_pos h1 h0
 have hd2:s/g<=s:=Na s g
 have hz:¬(g:Int)=0:=by omega
 obtain⟨Q,hQ⟩:∃Q,s/g=Q:=⟨_,rfl⟩
 rw[hQ]at hq hd1 hd2 ⊢
 have hw:IntKind.i64.wrap (Q:Int)=(Q:Int):=KU _ (by omega)
 have HD:=KO (fun W=>qJ Q W (by omega))
 clear hW0 hQ b0 hg h1
 go_enter func138,ntmps138
 go_upto_region 1 with fail
 rw[HW0.out]
 go_wp2_with fail
 refine(HD.out _).mono ?_
 rintro e w1 ⟨rfl,hw1⟩
 subst hw1
 go_wp2
 go_ret
 exact⟨rfl,hb0⟩
theorem pK (c:Cfg) (n d h l:Nat) (w:World) (hs:TakeS c n d h l):
  Calls prog 139 #[.agg c.row,.int .i64 (n:Nat)] w fun r w'=>r= .returned (.int .i64 (fO n d h l:Nat))/\Below w.heap.size w w':=by
 obtain⟨T,hT⟩:∃T,fO n d h l=T:=⟨_,rfl⟩
 rw[hT]
 have HT:Hid (Fits n d h 16 l/\fB n d h 16 l=T):=⟨jX hs.n2 hs.dh (by have:=hs.l1;omega) hs.l2,hT⟩
 have HS:=KO hs
 clear hT hs
 obtain⟨W0,hW0⟩:∃W0,w.alloc (.cells c.row 24)=W0:=⟨_,rfl⟩
 have hb0:Below w.heap.size w W0:=by rw[<-hW0];exact(KR _ _).alloc (KS _) _
 have b0:Blk W0 w.heap.size 24 c.row:=by rw[<-hW0];exact Blk.new _ _ _
 have HW0:=KO hW0
 have c3:W0.cell? ⟨w.heap.size,3,none⟩=some (.int .i64 (l:Int)):=(b0.cell 3).trans (by rw[<-HS.out.least];rfl)
 have c4:W0.cell? ⟨w.heap.size,4,none⟩=some (.int .i64 (d:Int)):=(b0.cell 4).trans (by rw[<-HS.out.den];rfl)
 have c7:W0.cell? ⟨w.heap.size,7,none⟩=some (.int .i64 (h:Int)):=(b0.cell 7).trans (by rw[<-HS.out.high];rfl)
 have i0:=b0.lt
 clear hW0 b0
 go_enter func139,ntmps139
 go_upto_region 1 with fail
 rw[HW0.out]
 go_wp2_with fail
 go_loopw [5] (fun s wr=>∃z g:Nat,s= .int .i64 (z:Int)/\wr=W0/\Hid (Fits n d h g z/\fB n d h g z=T/\65536-z<=65536)) (fun s _=>65536-(intOf s).toNat)
 case atStart=>exact⟨l,16,rfl,rfl,HT.out.1,HT.out.2,by omega⟩
 case round=>
  obtain⟨z,g,rfl,hw,hI⟩:=hrel
  have hw2:=hw.symm
  subst hw2
  obtain⟨hf,ht,_⟩:=hI.out
  have hz6:=hf.le
  have hz0:=hf.pos
  have hnd:n*d<=1048576:=by
   have:=MH HS.out.n2 HS.out.d2
   omega
  have hhz:h*z<=4194304:=by
   have:=MH HS.out.h2 hz6
   omega
  have m1:IntKind.i64.wrap ((n:Int)*(d:Int))=((n*d:Nat):Int):=by rw[show(n:Int)*(d:Int)=((n*d:Nat):Int)from by simp];exact KU _ (by omega)
  have m2:IntKind.i64.wrap ((h:Int)*(z:Int))=((h*z:Nat):Int):=by rw[show(h:Int)*(z:Int)=((h*z:Nat):Int)from by simp];exact KU _ (by omega)
  have m3:IntKind.i64.wrap (2*(z:Int))=((2*z:Nat):Int):=(KU _ (by omega)).trans (by omega)
  obtain⟨p,hp⟩:∃p,n*d=p:=⟨_,rfl⟩
  obtain⟨r,hr⟩:∃r,h*z=r:=⟨_,rfl⟩
  by_cases hgo:r< p
  ·obtain⟨k',hk',ht',hf'⟩:=nA hf (by rw[hp,hr];exact hgo) HS.out.n2 HS.out.dh
   have hle:=hf'.le
   have HN:Hid (Fits n d h k' (2*z)/\fB n d h k' (2*z)=T/\65536-2*z<=65536):=⟨hf',by rw[<-ht',ht],by omega⟩
   have i1:(r:Int)< (p:Int):=by omega
   rw[hp]at m1
   rw[hr]at m2
   clear hk' ht' hf' hI hf ht hp hr hnd hhz
   go_wp2_with fail
   go_roundw
   case rel=>exact⟨2*z,k',rfl,by first|trivial|rfl,HN⟩
   case measure=>simp[intOf];omega
  ·have HV:Hid (T=z):=by show _=_;rw[<-ht,pu (by rw[hp,hr];exact hgo)]
   have i1:¬(r:Int)< (p:Int):=by omega
   rw[hp]at m1
   rw[hr]at m2
   clear hI hf ht hp hr hnd hhz
   go_wp2_with fail
   go_ret
   exact⟨by rw[HV.out];rfl,hb0⟩
end Go.Proofs.YtpbmbjjfdpkhbaaGreat
