/- part of the proof -/
import Derived.WalkKit
import Derived.WalkSpells
import Derived.Deep.QuietTactic
import Derived.BigQuiet
import Derived.Lib.Hide
import Derived.Laws.OwnMore
import Derived.Laws.MakeOwn
import Derived.Laws.Entries
import Derived.OwnWalk
import Derived.RangeFuncOwn
import Derived.RangeFuncLeaves
import Derived.OwnWalkIn
import Derived.TacticsInMore
import Derived.LoopIn
import Derived.LoopNIn
import Derived.Shelf.Abstract
import Derived.Shelf.RegionOpen
import Derived.ScopeJumps
import Derived.WalkMore
import Derived.Laws.ComplexArith
import Derived.Test.YtpbmbjjfdpkhbaaGreatProg
import Derived.Laws.Bits64b
import Derived.Laws.Bits128
import Derived.IntWalk
import Derived.Deep.CutRange
namespace Go.Proofs.YtpbmbjjfdpkhbaaGreat
open Go Go.RowKit
set_option maxRecDepth 100000
set_option maxHeartbeats 32000000
open Go.Proofs.Tryz
open Below renaming refl->Lg
open Go.Lib renaming hid->Lc,run_eql_slice_nil->Nw
open Go.World renaming cell?_of_block->ME,ownsRow_made->Nc,ownsRow_nil->L6,putObj_heap_other->LA
open Int renaming natCast_ediv->Nl,natCast_mul->M5
open List renaming eq_nil_of_length_eq_zero->Mo,flatMap_cons->NE,getElem?_append_left->Nz,getElem?_append_right->Mw,getElem?_eq_getElem->Lu,getElem?_set_ne->Nq,getElem?_take->Ni,getElem_mem->LP,nil_append->Ml,take_of_length_le->LF,take_succ_eq_append_getElem->LG
open Nat renaming div_div_eq_div_mul->MC,le_refl->Lf,le_trans->Lt,mul_assoc->MB,mul_comm->Mk,mul_le_mul_right->Mg,pow_add->MQ,pow_succ->M8,zero_add->MZ,zero_le->LC
section
structure Ent where
 key:Int
 val:Int
 dead:Bool
 deriving DecidableEq
structure Pr where
 key:Int
 val:Int
 deriving DecidableEq
def Ent.cells (e:Ent):List Value:=[.int .i64 e.key,.int .i64 e.val,.bool e.dead]
def Pr.cells (e:Pr):List Value:=[.int .i64 e.key,.int .i64 e.val]
def Sl (w:World) (A:Option Addr) (xs:List Value):Prop:=
 xs=[]∨∃b off,A=some ⟨b,off,none⟩/\b< w.heap.size/\∀j u,xs[j]?=some u->w.cell? ⟨b,off+j,none⟩=some u
theorem Sl.below {w w':World} {A:Option Addr} {xs:List Value} (h:Sl w A xs) (hb:Below w.heap.size w w'):Sl w' A xs:=by
 rcases h with h|⟨b,off,hA,hlt,hc⟩
 ·exact .inl h
 ·exact .inr ⟨b,off,hA,Nat.lt_of_lt_of_le hlt hb.size,fun j u hu=>(hb.cell (p:=⟨b,off+j,none⟩) hlt).trans (hc j u hu)⟩
theorem flat_get {α:Type} (enc:α->List Value) (s:Nat) (hs:∀x,(enc x).length=s) (l:List α) (i j:Nat) (hi:i< l.length) (hj:j< s):
  (l.flatMap enc)[i*s+j]?=(enc (l[i]'hi))[j]?:=by
 induction l generalizing i with
 |nil=>simp at hi
 |cons x l ih=>
  rw[NE]
  cases i with
  |zero=>rw[Nz (by rw[hs];omega)];simp
  |succ i=>
   have:(i+1)*s+j=s+(i*s+j):=by rw[Nat.succ_mul];omega
   rw[this,Mw (by rw[hs];omega),hs]
   have:s+(i*s+j)-s=i*s+j:=by omega
   rw[this,ih i (by simpa using hi)]
   rfl
theorem aN {α:Type} (enc:α->List Value) (s:Nat) (hs:∀x,(enc x).length=s) (l:List α):(l.flatMap enc).length=l.length*s:=by
 induction l with
 |nil=>simp
 |cons x l ih=>rw[NE,List.length_append,hs,ih,List.length_cons,Nat.succ_mul];omega
theorem Ent.cells_length (e:Ent):e.cells.length=3:=rfl
theorem Pr.cells_length (e:Pr):e.cells.length=2:=rfl
theorem Sl.ent {w:World} {A:Option Addr} {l:List Ent} (h:Sl w A (l.flatMap Ent.cells)) (i:Nat) (hi:i< l.length):
  ∃b off,A=some ⟨b,off,none⟩/\b< w.heap.size/\w.cell? ⟨b,off+i*3,none⟩=some (.int .i64 (l[i]'hi).key)/\
   w.cell? ⟨b,off+i*3+1,none⟩=some (.int .i64 (l[i]'hi).val)/\w.cell? ⟨b,off+i*3+2,none⟩=some (.bool (l[i]'hi).dead):=by
 rcases h with h|⟨b,off,hA,hlt,hc⟩
 ·have:=aN Ent.cells 3 Ent.cells_length l
  rw[h]at this
  simp at this
  omega
 ·refine⟨b,off,hA,hlt,?_,?_,?_⟩
  ·exact hc _ _ ((flat_get Ent.cells 3 Ent.cells_length l i 0 hi (by omega)).trans rfl)
  ·exact hc _ _ ((flat_get Ent.cells 3 Ent.cells_length l i 1 hi (by omega)).trans rfl)
  ·exact hc _ _ ((flat_get Ent.cells 3 Ent.cells_length l i 2 hi (by omega)).trans rfl)
theorem Sl.pr {w:World} {A:Option Addr} {l:List Pr} (h:Sl w A (l.flatMap Pr.cells)) (i:Nat) (hi:i< l.length):
  ∃b off,A=some ⟨b,off,none⟩/\b< w.heap.size/\w.cell? ⟨b,off+i*2,none⟩=some (.int .i64 (l[i]'hi).key)/\
   w.cell? ⟨b,off+i*2+1,none⟩=some (.int .i64 (l[i]'hi).val):=by
 rcases h with h|⟨b,off,hA,hlt,hc⟩
 ·have:=aN Pr.cells 2 Pr.cells_length l
  rw[h]at this
  simp at this
  omega
 ·refine⟨b,off,hA,hlt,?_,?_⟩
  ·exact hc _ _ ((flat_get Pr.cells 2 Pr.cells_length l i 0 hi (by omega)).trans rfl)
  ·exact hc _ _ ((flat_get Pr.cells 2 Pr.cells_length l i 1 hi (by omega)).trans rfl)
def Dq (n:Nat):Value:= .int .i64 (n:Int)
theorem Sl.one {α:Type} {w:World} {A:Option Addr} {f:α->Value} {l:List α} (h:Sl w A (l.map f)) (i:Nat) (hi:i< l.length):
  ∃b off,A=some ⟨b,off,none⟩/\b< w.heap.size/\w.cell? ⟨b,off+i,none⟩=some (f (l[i]'hi)):=by
 rcases h with h|⟨b,off,hA,hlt,hc⟩
 ·have:(l.map f).length=0:=by rw[h];rfl
  simp at this
  subst this
  simp at hi
 ·exact⟨b,off,hA,hlt,hc i _ (by rw[List.getElem?_map,Lu hi];rfl)⟩
theorem Sl.entB {w w':World} {A:Option Addr} {l:List Ent} (h:Sl w A (l.flatMap Ent.cells)) (hb:Below w.heap.size w w') (i:Nat) (hi:i< l.length):
  ∃b off,A=some ⟨b,off,none⟩/\b< w.heap.size/\w'.cell? ⟨b,off+i*3,none⟩=some (.int .i64 (l[i]'hi).key)/\
   w'.cell? ⟨b,off+i*3+1,none⟩=some (.int .i64 (l[i]'hi).val)/\w'.cell? ⟨b,off+i*3+2,none⟩=some (.bool (l[i]'hi).dead):=by
 obtain⟨b,off,hA,hlt,c1,c2,c3⟩:=h.ent i hi
 exact⟨b,off,hA,hlt,(hb.cell (p:=⟨b,_,none⟩) hlt).trans c1,(hb.cell (p:=⟨b,_,none⟩) hlt).trans c2,(hb.cell (p:=⟨b,_,none⟩) hlt).trans c3⟩
theorem Sl.prB {w w':World} {A:Option Addr} {l:List Pr} (h:Sl w A (l.flatMap Pr.cells)) (hb:Below w.heap.size w w') (i:Nat) (hi:i< l.length):
  ∃b off,A=some ⟨b,off,none⟩/\b< w.heap.size/\w'.cell? ⟨b,off+i*2,none⟩=some (.int .i64 (l[i]'hi).key)/\
   w'.cell? ⟨b,off+i*2+1,none⟩=some (.int .i64 (l[i]'hi).val):=by
 obtain⟨b,off,hA,hlt,c1,c2⟩:=h.pr i hi
 exact⟨b,off,hA,hlt,(hb.cell (p:=⟨b,_,none⟩) hlt).trans c1,(hb.cell (p:=⟨b,_,none⟩) hlt).trans c2⟩
theorem Sl.oneB {α:Type} {w w':World} {A:Option Addr} {f:α->Value} {l:List α} (h:Sl w A (l.map f)) (hb:Below w.heap.size w w') (i:Nat) (hi:i< l.length):
  ∃b off,A=some ⟨b,off,none⟩/\b< w.heap.size/\w'.cell? ⟨b,off+i,none⟩=some (f (l[i]'hi)):=by
 obtain⟨b,off,hA,hlt,c1⟩:=h.one i hi
 exact⟨b,off,hA,hlt,(hb.cell (p:=⟨b,_,none⟩) hlt).trans c1⟩
def Blk (w:World) (g:Nat) (t:TypeId) (cs:Array Value):Prop:=w.heap[g]?=some (.cells cs t (0,0))
section
variable {w w':World} {g:Nat} {t:TypeId} {cs:Array Value}
theorem Blk.lt (h:Blk w g t cs):g< w.heap.size:=by
 rcases Nat.lt_or_ge g w.heap.size with hlt|hge
 ·exact hlt
 ·unfold Blk at h;rw[Array.getElem?_eq_none hge]at h;cases h
theorem Blk.cell (h:Blk w g t cs) (i:Nat):w.cell? ⟨g,i,none⟩=cs[i]?:=cell_of_row w g i cs t (0,0) h
theorem Blk.frozen (h:Blk w g t cs) (i:Nat):w.frozen? ⟨g,i,none⟩=false:=by
 unfold Blk at h
 simp[World.frozen?,h]
theorem Blk.new (w:World) (t:TypeId) (cs:Array Value):Blk (w.alloc (.cells cs t)) w.heap.size t cs:=heap_alloc_new w _
theorem Blk.drewN (h:Blk w g t cs) (n:Nat):Blk (w.drewN n) g t cs:=h
theorem Blk.alloc (h:Blk w g t cs) (o:Obj):Blk (w.alloc o) g t cs:=(Below.heap_alloc w o g h.lt).trans h
theorem Blk.set_ (h:Blk w g t cs) (i:Nat) (u:Value):Blk (w.setCell ⟨g,i,none⟩ u) g t (cs.setIfInBounds i u):=by
 unfold Blk at h ⊢
 simp[World.setCell,Array.getElem?_modify,h]
theorem Blk.far (h:Blk w g t cs) {p:Addr} (hp:g≠p.block) (u:Value):Blk (w.setCell p u) g t cs:=(Below.heap_setCell w p u g hp).trans h
theorem Blk.of (h:Blk w g t cs) (he:w'.heap[g]?=w.heap[g]?):Blk w' g t cs:=he.trans h
theorem Blk.below {B:Nat} (h:Blk w g t cs) (hb:Below B w w') (hg:g< B):Blk w' g t cs:=(hb.block g hg).trans h
theorem Blk.sl (h:Blk w g t cs) (o:Nat) (xs:List Value) (hx:∀j u,xs[j]?=some u->cs[o+j]?=some u):Sl w (some ⟨g,o,none⟩) xs:=
 .inr ⟨g,o,rfl,h.lt,fun j u hu=>(h.cell _).trans (hx j u hu)⟩
end
section
variable {w:World} {B B' s n c:Nat} {e:TypeId} {A:Option Addr} {v:Value} {xs:List Value}
theorem ak (h:w.ownsRow B e s v n xs):∃A c,v= .slice A n c/\n<=c/\c<=maxLen:=by
 rcases h.2 with⟨rfl,rfl⟩|⟨g,cap,cur,rfl,_,_,hn,hm,_⟩
 ·exact⟨none,0,rfl,Lf _,LC _⟩
 ·exact⟨_,cap,rfl,hn,hm⟩
theorem aA (h:w.ownsRow B e s (.slice A n c) n xs):Sl w A xs:=by
 rcases h.2 with⟨hv,hn⟩|⟨g,cap,cur,hv,_,hg,_,_,_,ht⟩
 ·left;have:=h.1;rw[hn]at this;exact Mo (by simpa using this)
 ·obtain⟨rfl,rfl⟩:A=some ⟨g,0,none⟩/\c=cap:=by simpa using hv
  refine .inr ⟨g,0,rfl,(Array.getElem?_eq_some_iff.1 hg).1,fun j u hu=>?_⟩
  rw[MZ,cell_of_row w g j cur e (0,0) hg]
  rw[<-ht,Ni]at hu
  split at hu
  ·simpa using hu
  ·cases hu
theorem iP (h:w.ownsRow B e s (.slice A n c) n xs):∀a,A=some a->B<=a.block:=by
 intro a ha
 exact(h.lt a.block (by simp[Value.ownBlock,ha])).1
theorem ay (h:w.ownsRow B e s v n xs) (hB:B'<=B):w.ownsRow B' e s v n xs:=by
 refine⟨h.1,?_⟩
 rcases h.2 with h2|⟨g,cap,cur,hv,hg,r⟩
 ·exact .inl h2
 ·exact .inr ⟨g,cap,cur,hv,by omega,r⟩
theorem own_below {w':World} (h:w.ownsRow B e s v n xs) (hb:Below w.heap.size w w'):w'.ownsRow B e s v n xs:=by
 refine⟨h.1,?_⟩
 rcases h.2 with h2|⟨g,cap,cur,hv,hg,hh,r⟩
 ·exact .inl h2
 ·exact .inr ⟨g,cap,cur,hv,hg,(hb.block g (Array.getElem?_eq_some_iff.1 hh).1).trans hh,r⟩
theorem gu {p:Addr} (h:w.ownsRow B e s v n xs) (hp:v.ownBlock≠some p.block) (u:Value):(w.setCell p u).ownsRow B e s v n xs:=by
 refine⟨h.1,?_⟩
 rcases h.2 with h2|⟨g,cap,cur,rfl,hg,hh,r⟩
 ·exact .inl h2
 ·exact .inr ⟨g,cap,cur,rfl,hg,(Below.heap_setCell w p u g (fun e=>hp (by simp[Value.ownBlock,e]))).trans hh,r⟩
theorem Je (h:w.ownsRow B e s v n xs) (hn:0< n):∃g cap cur,v= .slice (some ⟨g,0,none⟩) n cap/\B<=g/\Blk w g e cur/\n<=cap/\cap<=maxLen/\cur.size=cap*s/\cur.toList.take (n*s)=xs:=by
 rcases h.2 with⟨_,rfl⟩|h2
 ·omega
 ·exact h2
end
section
variable {P:Program} (w:World)
theorem nT (base:Nat) (t ty e:TypeId) (i:TypeInfo) (size:Nat) (ht:P.underlying t=some (.slice e)) (hi:P.info? e=some i)
  (v:Value) (n:Nat) (xs:List Value) (hown:w.ownsRow base e size v n xs) (A:Option Addr) (c:Nat):(Builtin.append_ #[t,t] ty #[v,.slice A 0 c]).run P w= .ok v w:=by
 cases A with
 |none=>
  rcases hown.2 with⟨rfl,rfl⟩|⟨g,cap,cur,rfl,_,_,hnc,_⟩
  ·simp[Builtin.append_,run_underlying ht,sizeOf,typeInfo,hi,Builtin.lenOf,Builtin.firstCells]
  ·simp[Builtin.append_,run_underlying ht,sizeOf,typeInfo,hi,Builtin.lenOf,Builtin.firstCells,hnc,storeCells]
 |some a=>
  rcases hown.2 with⟨rfl,rfl⟩|⟨g,cap,cur,rfl,_,_,hnc,_⟩
  ·simp[Builtin.append_,run_underlying ht,sizeOf,typeInfo,hi,Builtin.lenOf,Builtin.firstCells,loadCells,loadCellsFrom]
  ·simp[Builtin.append_,run_underlying ht,sizeOf,typeInfo,hi,Builtin.lenOf,Builtin.firstCells,hnc,storeCells,loadCells,loadCellsFrom]
theorem jD (base:Nat) (t ty e:TypeId) (i:TypeInfo) (z:Value) (size bytes:Nat) (ht:P.underlying t=some (.slice e)) (hi:P.info? e=some i) (hz:i.zero=some z)
  (hsize:i.size=size) (hby:i.bytes=bytes) (hzs:z.cells.size=size) (hsz:0< size)
  (v:Value) (n:Nat) (xs:List Value) (hown:w.ownsRow base e size v n xs)
  (A:Option Addr) (m c:Nat) (news:List Value) (hr:Sl w A news) (hl:news.length=m*size) (h1:∀u∈news,u.oneCell'=true)
  (h63:n+m<=maxLen) (hbytes:(n+m)*bytes<=140737488355328) (hbase:base<=w.heap.size):
  ∃v' w',(Builtin.append_ #[t,t] ty #[v,.slice A m c]).run P w= .ok v' w'/\w'.ownsRow base e size v' (n+m) (xs++news)/\w.grownBy w' v.ownBlock:=by
 by_cases hm:m=0
 ·subst hm
  have hn:news=[]:=Mo (by simpa using hl)
  subst hn
  exact⟨v,w,nT w base t ty e i size ht hi v n xs hown A c,by simpa using hown,World.grownBy.refl w _⟩
 ·rcases hr with hr|⟨b,off,rfl,hlt,hc⟩
  ·subst hr
   rw[List.length_nil]at hl
   have:=Nat.mul_pos (Nat.pos_of_ne_zero hm) hsz
   omega
  ·obtain⟨v',w',hrun,h2,h3,_⟩:=run_append_own (P:=P) w base t ty e i z size bytes ht hi hz hsize hby hzs hsz v n xs hown ⟨b,off,none⟩ m c news hl
    (fun j u hu=>by rw[Addr.add_lit];exact hc j u hu) h1 h63 hbytes hbase
   exact⟨v',w',hrun,h2,h3⟩
theorem ag {ops:Array Oper} {rest:List Oper} {o:Oper} {a:Act} {Q:Exit->Act->World->Prop} (hgd:o.guard=none) (s x:Operand) (t:TypeId)
  (ho:o.op= .call {callee:= .builtin .append,args:=#[s,x],argTypes:=#[t,t]})
  (base:Nat) (e:TypeId) (i:TypeInfo) (z:Value) (size bytes:Nat) (ht:P.underlying t=some (.slice e)) (hi:P.info? e=some i) (hz:i.zero=some z)
  (hsize:i.size=size) (hby:i.bytes=bytes) (hzs:z.cells.size=size) (hsz:0< size)
  (v:Value) (n:Nat) (xs:List Value) (hs:a.eval s=v) (hown:w.ownsRow base e size v n xs)
  (A:Option Addr) (m c:Nat) (news:List Value) (hx:a.eval x= .slice A m c) (hr:Sl w A news) (hl:news.length=m*size) (h1:∀u∈news,u.oneCell'=true)
  (h63:n+m<=maxLen) (hbytes:(n+m)*bytes<=140737488355328) (hbase:base<=w.heap.size)
  (h:∀v' w',w'.ownsRow base e size v' (n+m) (xs++news)->w.grownBy w' v.ownBlock->wpList P ops Q rest (a.put o.dst v') w'):wpList P ops Q (o::rest) a w:=by
 refine wpList_plain hgd fun K hK=>?_
 obtain⟨v',w',hrun,h2,h3⟩:=jD (P:=P) w base t o.type e i z size bytes ht hi hz hsize hby hzs hsz v n xs hown A m c news hr hl h1 h63 hbytes hbase
 unfold Oper.wp execOp
 simp only[ho,resolve,invoke,builtin,Sem.run_bind,Sem.run_pure,Result.andThen_ok,List.map_toArray,List.map_cons,List.map_nil,hs,hx,hrun]
 exact hK _ _ (h v' w' h2 h3)
end
theorem dP {P:Program} (w:World) {ops:Array Oper} {o:Oper} {a:Act} {K:Act->World->Prop} {Q:Exit->Act->World->Prop} {E:Prop} (hgd:o.guard=none) (s x:Operand) (t:TypeId)
  (ho:o.op= .call {callee:= .builtin .append,args:=#[s,x],argTypes:=#[t,t]})
  (base:Nat) (e:TypeId) (i:TypeInfo) (z:Value) (size bytes:Nat) (ht:P.underlying t=some (.slice e)) (hi:P.info? e=some i) (hz:i.zero=some z)
  (hsize:i.size=size) (hby:i.bytes=bytes) (hzs:z.cells.size=size) (hsz:0< size)
  (v:Value) (n:Nat) (xs:List Value) (hs:a.eval s=v) (hown:w.ownsRow base e size v n xs)
  (A:Option Addr) (m c:Nat) (news:List Value) (hx:a.eval x= .slice A m c) (hr:Sl w A news) (hl:news.length=m*size) (h1:∀u∈news,u.oneCell'=true)
  (h63:n+m<=maxLen) (hbytes:(n+m)*bytes<=140737488355328) (hbase:base<=w.heap.size)
  (h:∀v' w',w'.ownsRow base e size v' (n+m) (xs++news)->w.grownBy w' v.ownBlock->K (a.put o.dst v') w'):
  if Region.wanted o (yielded ops a.tmps)=true then Oper.wp P o a w K Q else E:=by
 have hw:Region.wanted o (yielded ops a.tmps)=true:=by simp[Region.wanted,hgd]
 rw[if_pos hw]
 obtain⟨v',w',hrun,h2,h3⟩:=jD (P:=P) w base t o.type e i z size bytes ht hi hz hsize hby hzs hsz v n xs hown A m c news hr hl h1 h63 hbytes hbase
 unfold Oper.wp execOp
 simp only[ho,resolve,invoke,builtin,Sem.run_bind,Sem.run_pure,Result.andThen_ok,List.map_toArray,List.map_cons,List.map_nil,hs,hx,hrun]
 exact h v' w' h2 h3
theorem AQ {w:World} {p:Addr} {v:Value} (h:w.cell? p=some v) (o:Obj):(w.alloc o).cell? p=some v:=
 (ME (Below.heap_alloc w o p.block (World.block_lt_of_cell? w p h))).trans h
theorem Ej {cur:Array Value} {k:Nat} {xs:List Value} (a b c:Value) (h:k*3+3<=cur.size) (hx:cur.toList.take (k*3)=xs):
  (((cur.setIfInBounds (k*3) a).setIfInBounds (k*3+1) b).setIfInBounds (k*3+2) c).toList.take ((k+1)*3)=xs++[a,b,c]:=by
 have hl:xs.length=k*3:=by rw[<-hx,List.length_take,Array.length_toList];omega
 refine List.ext_getElem? fun i=>?_
 rw[Ni]
 by_cases h1:i< k*3
 ·rw[if_pos (by omega),Nz (by omega),<-hx,Ni,if_pos h1]
  simp only[Array.toList_setIfInBounds]
  rw[Nq (by omega),Nq (by omega),Nq (by omega)]
 ·rw[Mw (by omega),hl]
  by_cases h2:i< (k+1)*3
  ·rw[if_pos h2]
   simp only[Array.toList_setIfInBounds]
   obtain⟨j,rfl⟩:∃j,i=k*3+j:=⟨i-k*3,by omega⟩
   have hj:j=0∨j=1∨j=2:=by omega
   rw[Nat.add_sub_cancel_left]
   rcases hj with rfl|rfl|rfl
   ·rw[Nq (by omega),Nq (by omega),Nat.add_zero,List.getElem?_set_self (by simpa using by omega)];rfl
   ·rw[Nq (by omega),List.getElem?_set_self (by simpa using by omega)];rfl
   ·rw[List.getElem?_set_self (by simpa using by omega)];rfl
  ·rw[if_neg h2,List.getElem?_eq_none (by simp;omega)]
theorem aU {P:Program} (t e:TypeId) (i:TypeInfo) (z:Value) (ht:P.underlying t=some (.slice e)) (hi:P.info? e=some i) (hz:i.zero=some z)
  (n:Nat) (hbytes:i.bytes*n<=281474976710656) (h63:n<=9223372036854775807) (w:World):
  (Instr.makeSlice t (.int .i64 (n:Int)) (.int .i64 (n:Int))).run P w= .ok (.slice (some ⟨w.heap.size,0,none⟩) n n) (w.alloc (.cells (madeCells z.cells (n*i.size)) e)):=by
 have hb:(i.bytes:Int)*(n:Int)<=281474976710656:=by
  have h:((i.bytes*n:Nat):Int)<=281474976710656:=by omega
  rwa [M5]at h
 have hr:=run_make (P:=P) w t e i z ht hi hz .i64 .i64 n n (by omega) (by omega) hb (by omega)
 simp only[Int.toNat_natCast]at hr
 exact hr
def rises (ks:List Int):Bool:=decide (ks.Pairwise (·< ·))
theorem uN (ks:List Int):rises ks=true↔∀i (h:i+1< ks.length),ks[i]'(by omega)< ks[i+1]'h:=by
 unfold rises
 rw[decide_eq_true_iff]
 constructor
 ·intro h i hi
  exact(List.pairwise_iff_getElem.1 h) i (i+1) (by omega) hi (by omega)
 ·intro h
  rw[List.pairwise_iff_getElem]
  intro i j hi hj hij
  induction j with
  |zero=>omega
  |succ j ih=>
   have hj':=h j hj
   by_cases e:i=j
   ·subst e;exact hj'
   ·exact Int.lt_trans (ih (by omega) (by omega)) hj'
theorem rR {ks:List Int} (h:∀i (h:i+1< ks.length),ks[i]'(by omega)< ks[i+1]'h):rises ks=true:=(uN ks).2 h
theorem xG {ks:List Int} {i:Nat} (hi:i+1< ks.length) (h:ks[i+1]'hi<=ks[i]'(by omega)):rises ks=false:=by
 rw[Bool.eq_false_iff]
 intro hr
 have:=(uN ks).1 hr i hi
 omega
theorem av {B:Nat} {a w:World} (h:Below B a w) (n:Nat):Below B a (w.drewN n):=⟨h.os,h.tape,h.output,h.size,h.block⟩
theorem aa {a b c:World} (h:Below a.heap.size a b) (k:Below b.heap.size b c):Below a.heap.size a c:=h.trans (k.mono h.size)
def RiseTo (ks:List Int) (k:Nat):Prop:=∀i (h:i+1< ks.length),i+1< k->ks[i]'(by omega)< ks[i+1]'h
theorem RiseTo.start (ks:List Int):RiseTo ks 1:=fun _ _ h=>absurd h (by omega)
theorem RiseTo.step {ks:List Int} {k:Nat} (h:RiseTo ks k) (hk:1<=k) (hlt:k< ks.length) (hx:ks[k-1]'(by omega)< ks[k]'hlt):RiseTo ks (k+1):=by
 intro i hi hik
 by_cases e:i+1=k
 ·subst e;simpa using hx
 ·exact h i hi (by omega)
theorem RiseTo.all {ks:List Int} {k:Nat} (h:RiseTo ks k) (hk:ks.length<=k):rises ks=true:=rR fun i hi=>h i hi (by omega)
theorem RiseTo.no {ks:List Int} {k:Nat} (hk:1<=k) (hlt:k< ks.length) (hx:ks[k]'hlt<=ks[k-1]'(by omega)):rises ks=false:=by
 obtain⟨j,rfl⟩:∃j,k=j+1:=⟨k-1,by omega⟩
 exact xG hlt (by simpa using hx)
theorem aL {W w1:World} {B:Nat} (hb:Below B W w1):(∀b o,b< B->w1.cell? ⟨b,o,none⟩=W.cell? ⟨b,o,none⟩)/\(∀b o,b< B->w1.frozen? ⟨b,o,none⟩=W.frozen? ⟨b,o,none⟩):=
 ⟨fun b o h=>hb.cell (p:=⟨b,o,none⟩) h,fun b o h=>hb.frozen (p:=⟨b,o,none⟩) h⟩
theorem aH {k:IntKind} {a b:Int} (h:a=b):Ending.returned (.int k a)= .returned (.int k b):=by rw[h]
theorem aJ {a b:Bool} (h:a=b):Ending.returned (.bool a)= .returned (.bool b):=by rw[h]
end
section
open Go.Shelf
structure Mod (S:Nat->Prop) (w w':World):Prop where
 os:w'.os=w.os
 tape:w'.tape=w.tape
 output:w'.output=w.output
 size:w.heap.size<=w'.heap.size
 block:∀k,k< w.heap.size->¬S k->w'.heap[k]?=w.heap[k]?
section
variable {S T:Nat->Prop} {a b c w w':World}
theorem Mod.refl (S:Nat->Prop) (w:World):Mod S w w:=⟨rfl,rfl,rfl,Lf _,fun _ _ _=>rfl⟩
theorem Mod.trans (h:Mod S a b) (k:Mod S b c):Mod S a c:=
 ⟨k.os.trans h.os,k.tape.trans h.tape,k.output.trans h.output,Lt h.size k.size,fun i hi hn=>(k.block i (Nat.lt_of_lt_of_le hi h.size) hn).trans (h.block i hi hn)⟩
theorem Mod.mono (h:Mod S a b) (hs:∀k,k< a.heap.size->S k->T k):Mod T a b:=⟨h.os,h.tape,h.output,h.size,fun i hi hn=>h.block i hi fun hk=>hn (hs i hi hk)⟩
theorem Mod.alloc (h:Mod S a w) (o:Obj):Mod S a (w.alloc o):=
 h.trans ⟨rfl,rfl,rfl,by simp,fun k hk _=>Below.heap_alloc _ _ _ hk⟩
theorem Mod.setCell (h:Mod S a w) {p:Addr} (hp:S p.block) (u:Value):Mod S a (w.setCell p u):=
 h.trans ⟨rfl,rfl,rfl,by simp[World.setCell],fun k hk hn=>Below.heap_setCell _ _ _ _ (fun e=>hn (e ▸ hp))⟩
theorem Mod.drew (h:Mod S a w):Mod S a w.drew:=⟨h.os,h.tape,h.output,h.size,h.block⟩
theorem Mod.ext (h:Mod S a w) (hb:Below w.heap.size w w'):Mod S a w':=
 h.trans ⟨hb.os,hb.tape,hb.output,hb.size,fun k hk _=>hb.block k hk⟩
theorem Mod.of_ext (hb:Below w.heap.size w w'):Mod S w w':=(Mod.refl S w).ext hb
theorem Mod.grown {row:Option Nat} (h:Mod S a w) (hg:w.grownBy w' row) (hr:∀k,row=some k->S k∨a.heap.size<=k):Mod S a w':=
 ⟨hg.os.trans h.os,hg.tape.trans h.tape,hg.output.trans h.output,Lt h.size hg.size,fun k hk hn=>(hg.block k (Nat.lt_of_lt_of_le hk h.size) (fun e=>by
  rcases hr k e.symm with hs|hs
  ·exact hn hs
  ·omega)).trans (h.block k hk hn)⟩
theorem Mod.below {B:Nat} (h:Mod S w w') (hB:B<=w.heap.size) (hs:∀k,S k->B<=k):Below B w w':=
 ⟨h.os,h.tape,h.output,h.size,fun k hk=>h.block k (by omega) fun hsk=>by have:=hs k hsk;omega⟩
theorem Mod.cell (h:Mod S w w') {p:Addr} (hp:p.block< w.heap.size) (hn:¬S p.block):w'.cell? p=w.cell? p:=ME (h.block _ hp hn)
theorem Mod.putObj (h:Mod S a w) {l:Nat} (hl:S l) (o:Obj):Mod S a (w.putObj l o):=
 h.trans ⟨rfl,rfl,rfl,by simp[World.putObj],fun k hk hn=>LA (fun e=>hn (e ▸ hl))⟩
end
theorem Blk.mod {S:Nat->Prop} {w w':World} {g:Nat} {t:TypeId} {cs:Array Value} (h:Blk w g t cs) (hm:Mod S w w') (hn:¬S g):Blk w' g t cs:=h.of (hm.block _ h.lt hn)
theorem Sl.mod {S:Nat->Prop} {w w':World} {A:Option Addr} {xs:List Value} (h:Sl w A xs) (hm:Mod S w w') (hn:∀a,A=some a->¬S a.block):Sl w' A xs:=by
 rcases h with h|⟨b,off,hA,hlt,hc⟩
 ·exact .inl h
 ·exact .inr ⟨b,off,hA,Nat.lt_of_lt_of_le hlt hm.size,fun j u hu=>(hm.cell (p:=⟨b,off+j,none⟩) hlt (hn ⟨b,off,none⟩ hA)).trans (hc j u hu)⟩
def Yields (F:Fence) (P:Program) (g:FuncId) (lb:Array Value) (N:Nat) (xs:Nat->Array Value) (K T:Nat->Prop) (w:World):Prop:=
 ∀(l:Nat) (I:Nat->World->Prop) (X:World->Prop) (W:World),
  w.heap.size<=W.heap.size->(∀b,K b->W.heap[b]?=w.heap[b]?)->
  (∀k A B,I k A->Mod T A B->I k B)->(∀A B,X A->Mod T A B->X B)->
  (∀k A,k< N->I k A->YieldAt F 0 P l (xs k) A fun e B=>
    (e= .returned (.bool true)/\I (k+1) B/\A.heap.size<=B.heap.size/\∀b,K b->B.heap[b]?=A.heap[b]?)∨(e= .returned (.bool false)/\X B))->
  I 0 W->
  CallsIn F 0 P g (#[.func (.yield l) #[] #[]]++lb) W fun e W'=>(∃v,e= .returned v)/\(I N W'∨X W')
def zq (B:Nat) (K:Nat->Prop) (In:World->Prop) (Ix:Code->World->Prop) (A:World):Exit->Act->World->Prop
 | .normal,_,W=>Mod (fun b=>b≠B/\b≠B+1/\¬K b) A W/\In W
 | .ret,_,W=>Mod (fun b=>b≠B/\b≠B+1) A W/\Ix .ret W
 | .exit id,_,W=>Mod (fun b=>b≠B/\b≠B+1) A W/\Ix (.exit id) W
 | .goto t,_,W=>Mod (fun b=>b≠B/\b≠B+1) A W/\Ix (.goto t) W
 | .panic _,_,_=>False
 | .outgrown,_,_=>False
theorem nJ {F:Fence} {P:Program} {g:Operand} {ps:Array Tmp} {assign body:Code} {Q:Exit->Act->World->Prop} {a:Act} {w:World}
  (hd:F.depth=none) (hF:∀f,F.fn f) (hro:F.round=none)
  {gf:Nat} {lb:Array Value} (hg:a.eval g= .func (.func gf) #[] lb) (eg:∀args w,(callFunc gf args).run P w= .ok (.enter gf args) w)
  {N:Nat} {xs:Nat->Array Value} {K T:Nat->Prop} (hy:Yields F P gf lb N xs K T w) (hK:∀b,K b->b< w.heap.size) (hT:∀b,T b->b< w.heap.size)
  (hps:∀k,(xs k).size=ps.size)
  (I:Nat->World->Prop) (Ix:Code->World->Prop)
  (hI:∀k A B,I k A->Mod (fun b=>T b∨b=w.heap.size∨b=w.heap.size+1) A B->I k B)
  (hIx:∀c A B,Ix c A->Mod (fun b=>T b∨b=w.heap.size∨b=w.heap.size+1) A B->Ix c B)
  (h0:I 0 w) (Ax:Nat->Act->World->Prop)
  (hAx:∀k a' A B,Ax k a' A->Mod (fun b=>T b∨b=w.heap.size∨b=w.heap.size+1) A B->Ax k a' B)
  (hassign:∀(l k:Nat),k< N->∀(A:World) (C:Act->World->Prop),I k A->w.heap.size+2<=A.heap.size->
   (∀a' A',Mod (fun b=>b≠w.heap.size/\b≠w.heap.size+1/\¬K b) A A'->I k A'->Ax k a' A'->C a' A')->
   assign.wpIn (F.inRound l) 0 P (Exit.then C (fun _ _ _=>False)) {tmps:=(ps.zip (xs k)).foldl (fun t (p,v)=>t.setIfInBounds p v) a.tmps,defers:=[]} A)
  (hbody:∀(l k:Nat),k< N->∀(a':Act) (A:World),I k A->Ax k a' A->w.heap.size+2<=A.heap.size->
   body.wpIn (F.inRound l) 0 P (zq w.heap.size K (I (k+1)) Ix A) a' A)
  (hdone:∀(W:World),I N W->W.heap[w.heap.size]?=some (.deferred (some []))->Q .normal {a with defers:={target:= .collected w.heap.size,args:=#[]}::a.defers} W)
  (hstop:∀(c:Code) (W:World),Ix c W->W.heap[w.heap.size]?=some (.deferred (some []))->c.wpIn F 0 P Q {a with defers:={target:= .collected w.heap.size,args:=#[]}::a.defers} W):
  (Code.rangeFunc g ps assign body).wpIn F 0 P Q a w:=by
 refine wpIn_rangeFunc ?_
 intro fn hfn
 rw[hro]
 obtain⟨rec,hrec⟩:∃rec:LoopState->Option Code->Loop,rec=fun st pe=>{state:=st,pending:=pe,fn,tmps:=a.tmps,params:=ps,assign,body,defers:=w.heap.size}:=⟨_,rfl⟩
 obtain⟨W1,hW1⟩:∃W1,(w.alloc (.deferred (some []))).alloc (.loop (rec .ready none))=W1:=⟨_,rfl⟩
 have hL1:W1.heap[w.heap.size+1]?=some (.loop (rec .ready none)):=by
  rw[<-hW1];have:=World.alloc_heap_new (w.alloc (.deferred (some []))) (.loop (rec .ready none));rwa [World.size_alloc]at this
 have hK1:W1.heap[w.heap.size]?=some (.deferred (some [])):=by
  rw[<-hW1];exact(Below.heap_alloc _ _ _ (by simp)).trans (World.alloc_heap_new w _)
 have hm1:∀S,Mod S w W1:=fun S=>by rw[<-hW1];exact((Mod.refl S w).alloc _).alloc _
 have hs1:W1.heap.size=w.heap.size+2:=by rw[<-hW1];simp
 refine⟨w.heap.size+1,[{target:= .collected w.heap.size,args:=#[]}],W1,{target:= .fn (.func gf) lb,args:=#[.func (.yield (w.heap.size+1)) #[] #[]]},W1,gf,
  #[.func (.yield (w.heap.size+1)) #[] #[]]++lb,W1,?_,?_,?_,?_,(fun h=>by rw[hd]at h;cases h),?_⟩
 ·rw[<-hW1,hrec];exact run_enterLoop_outer _ _ _ _ _
 ·simp only[resolve,hg]
  simp[go_sem]
 ·intro f' _;exact hF _
 ·simp[invoke,go_sem,eg]
 ·have hTne:∀b,T b->b≠w.heap.size/\b≠w.heap.size+1:=fun b hb=>by have:=hT b hb;omega
  have hKne:∀b,K b->b≠w.heap.size/\b≠w.heap.size+1:=fun b hb=>by have:=hK b hb;omega
  refine(hy (w.heap.size+1)
   (fun k W=>I k W/\W.heap[w.heap.size+1]?=some (.loop (rec .ready none))/\W.heap[w.heap.size]?=some (.deferred (some [])))
   (fun W=>∃c,Ix c W/\W.heap[w.heap.size+1]?=some (.loop (rec .done (some c)))/\W.heap[w.heap.size]?=some (.deferred (some [])))
   W1 (by omega) (fun b hb=>(hm1 (fun _=>False)).block b (hK b hb) (fun h=>h))
   ?stab ?stabx ?round ⟨hI 0 _ _ h0 (hm1 _),hL1,hK1⟩).mono ?behind
  case stab=>
   rintro k A B ⟨hi,hl,hk⟩ hm
   refine⟨hI _ _ _ hi (hm.mono fun _ _ h=> .inl h),?_,?_⟩
   ·exact(hm.block _ (Array.getElem?_eq_some_iff.1 hl).1 (fun h=>(hTne _ h).2 rfl)).trans hl
   ·exact(hm.block _ (Array.getElem?_eq_some_iff.1 hk).1 (fun h=>(hTne _ h).1 rfl)).trans hk
  case stabx=>
   rintro A B ⟨c,hi,hl,hk⟩ hm
   refine⟨c,hIx _ _ _ hi (hm.mono fun _ _ h=> .inl h),?_,?_⟩
   ·exact(hm.block _ (Array.getElem?_eq_some_iff.1 hl).1 (fun h=>(hTne _ h).2 rfl)).trans hl
   ·exact(hm.block _ (Array.getElem?_eq_some_iff.1 hk).1 (fun h=>(hTne _ h).1 rfl)).trans hk
  case round=>
   rintro k A hk ⟨hi,hl,hD⟩
   have hlt:w.heap.size+1< A.heap.size:=(Array.getElem?_eq_some_iff.1 hl).1
   have hyd:=run_yield (P:=P) (args:=xs k) hl (by rw[hrec];exact hps k)
   rw[hrec]at hyd
   refine⟨fn,_,assign,body,hyd,roundIn_of_wpIn hfn (hassign _ k hk A _ hi (by omega) ?_)⟩
   clear hyd
   intro a' A1 hm hi1 hax
   have hl1:A1.heap[w.heap.size+1]?=some (.loop (rec .ready none)):=(hm.block _ hlt (fun h=>h.2.1 rfl)).trans hl
   have hD1:A1.heap[w.heap.size]?=some (.deferred (some [])):=(hm.block _ (by omega) (fun h=>h.1 rfl)).trans hD
   have hlt1:w.heap.size+1< A1.heap.size:=(Array.getElem?_eq_some_iff.1 hl1).1
   refine⟨_,run_beginRound hl1 (by rw[hrec]),?_⟩
   obtain⟨A2,hA2⟩:∃A2,A1.putObj (w.heap.size+1) (.loop {rec .ready none with state:= .busy})=A2:=⟨_,rfl⟩
   rw[hA2]
   have hl2:A2.heap[w.heap.size+1]?=some (.loop {rec .ready none with state:= .busy}):=by rw[<-hA2];exact World.putObj_heap_same hlt1
   have hD2:A2.heap[w.heap.size]?=some (.deferred (some [])):=by rw[<-hA2];exact(LA (by omega)).trans hD1
   have hm2:Mod (fun b=>T b∨b=w.heap.size∨b=w.heap.size+1) A1 A2:=by rw[<-hA2];exact(Mod.refl _ _).putObj (.inr (.inr rfl)) _
   have hk12:∀b,K b->A2.heap[b]?=A1.heap[b]?:=fun b hb=>by rw[<-hA2];exact LA (hKne b hb).2
   have hs2:A2.heap.size=A1.heap.size:=by rw[<-hA2];simp[World.putObj]
   refine wpIn_mono (hbody _ k hk a' A2 (hI _ _ _ hi1 hm2) (hAx _ _ _ _ hax hm2) (by omega)) ?_
   have fin:∀(jump:Option Code) (W3:World) (S:Nat->Prop),Mod S A2 W3->¬S w.heap.size->¬S (w.heap.size+1)->
     (Instr.endRound (w.heap.size+1) jump).run P W3= .ok (.bool jump.isNone) (W3.putObj (w.heap.size+1) (.loop (rec (if jump.isNone then .ready else .done) jump)))/\
     (W3.putObj (w.heap.size+1) (.loop (rec (if jump.isNone then .ready else .done) jump))).heap[w.heap.size+1]?=some (.loop (rec (if jump.isNone then .ready else .done) jump))/\
     (W3.putObj (w.heap.size+1) (.loop (rec (if jump.isNone then .ready else .done) jump))).heap[w.heap.size]?=some (.deferred (some [])):=fun jump W3 S hm3 hn1 hn2=>by
    have hl3:=(hm3.block _ (by omega) hn2).trans hl2
    have hD3:=(hm3.block _ (by omega) hn1).trans hD2
    have:=run_endRound (P:=P) jump hl3
    rw[hrec]at this ⊢
    exact⟨this,World.putObj_heap_same (Array.getElem?_eq_some_iff.1 hl3).1,(LA (by omega)).trans hD3⟩
   have mp:∀(W3:World) (o:Obj),Mod (fun b=>T b∨b=w.heap.size∨b=w.heap.size+1) W3 (W3.putObj (w.heap.size+1) o):=fun W3 o=>(Mod.refl _ _).putObj (.inr (.inr rfl)) o
   rintro e a3 W3 hp
   cases e with
   |normal=>
    obtain⟨hm3,hi3⟩:=hp
    obtain⟨hr,hl4,hD4⟩:=fin none W3 _ hm3 (fun h=>h.1 rfl) (fun h=>h.2.1 rfl)
    refine⟨_,_,hr,.inl ⟨rfl,⟨hI _ _ _ hi3 (mp _ _),hl4,hD4⟩,?_,fun b hb=>?_⟩⟩
    ·have:=hm.size;have:=hm3.size;simp[World.putObj];omega
    ·have h1:=hm.block b (by have:=hK b hb;omega) (fun h=>h.2.2 hb)
     have h2:=hk12 b hb
     have h3:=hm3.block b (by have:=hK b hb;omega) (fun h=>h.2.2 hb)
     exact(LA (hKne b hb).2).trans (h3.trans (h2.trans h1))
   |ret=>
    obtain⟨hm3,hi3⟩:=hp
    obtain⟨hr,hl4,hD4⟩:=fin (some .ret) W3 _ hm3 (fun h=>h.1 rfl) (fun h=>h.2 rfl)
    exact⟨_,_,hr,.inr ⟨rfl,.ret,hIx _ _ _ hi3 (mp _ _),hl4,hD4⟩⟩
   |exit id=>
    obtain⟨hm3,hi3⟩:=hp
    obtain⟨hr,hl4,hD4⟩:=fin (some (.exit id)) W3 _ hm3 (fun h=>h.1 rfl) (fun h=>h.2 rfl)
    exact⟨_,_,hr,.inr ⟨rfl,.exit id,hIx _ _ _ hi3 (mp _ _),hl4,hD4⟩⟩
   |goto t=>
    obtain⟨hm3,hi3⟩:=hp
    obtain⟨hr,hl4,hD4⟩:=fin (some (.goto t)) W3 _ hm3 (fun h=>h.1 rfl) (fun h=>h.2 rfl)
    exact⟨_,_,hr,.inr ⟨rfl,.goto t,hIx _ _ _ hi3 (mp _ _),hl4,hD4⟩⟩
   |panic ch=>exact hp.elim
   |outgrown=>exact hp.elim
  case behind=>
   have mp:∀(W3:World) (o:Obj),Mod (fun b=>T b∨b=w.heap.size∨b=w.heap.size+1) W3 (W3.putObj (w.heap.size+1) o):=fun W3 o=>(Mod.refl _ _).putObj (.inr (.inr rfl)) o
   rintro e W2 ⟨⟨v,rfl⟩,(⟨hi,hl,hk⟩|⟨c,hi,hl,hk⟩)⟩
   ·exact⟨none,_,by have:=run_endLoop (P:=P) hl (by rw[hrec];simp);rw[hrec]at this;exact this,hdone _ (hI _ _ _ hi (mp _ _)) ((LA (by omega)).trans hk)⟩
   ·exact⟨some c,_,by have:=run_endLoop (P:=P) hl (by rw[hrec];simp);rw[hrec]at this;exact this,hstop c _ (hIx _ _ _ hi (mp _ _)) ((LA (by omega)).trans hk)⟩
def rt (t:Array Value) (l:List (Tmp × Value)):Array Value:=l.foldl (fun t p=>t.setIfInBounds p.1 p.2) t
theorem kU {F:Fence} {P:Program} {g:Operand} {ps:Array Tmp} {assign body:Code} {Q:Exit->Act->World->Prop} {a:Act} {w:World}
  (hd:F.depth=none) (hF:∀f,F.fn f) (hro:F.round=none)
  {gf:Nat} {lb:Array Value} (hg:a.eval g= .func (.func gf) #[] lb) (eg:∀args w,(callFunc gf args).run P w= .ok (.enter gf args) w)
  {N:Nat} {xs:Nat->Array Value} {K T:Nat->Prop} (hy:Yields F P gf lb N xs K T w) (hK:∀b,K b->b< w.heap.size) (hT:∀b,T b->b< w.heap.size)
  (hps:∀k,(xs k).size=ps.size)
  (I:Nat->World->Prop) (Ix:Code->World->Prop) (sets:Nat->List (Tmp × Value))
  (hI:∀k A B,I k A->Mod (fun b=>T b∨b=w.heap.size∨b=w.heap.size+1) A B->I k B)
  (hIx:∀c A B,Ix c A->Mod (fun b=>T b∨b=w.heap.size∨b=w.heap.size+1) A B->Ix c B)
  (h0:I 0 w)
  (hassign:∀(l k:Nat),k< N->∀(A:World) (C:Act->World->Prop),C {tmps:=rt a.tmps (sets k),defers:=[]} A->
   assign.wpIn (F.inRound l) 0 P (Exit.then C (fun _ _ _=>False)) {tmps:=(ps.zip (xs k)).foldl (fun t (p,v)=>t.setIfInBounds p v) a.tmps,defers:=[]} A)
  (hbody:∀(l k:Nat),k< N->∀(A:World),I k A->w.heap.size+2<=A.heap.size->
   body.wpIn (F.inRound l) 0 P (zq w.heap.size K (I (k+1)) Ix A) {tmps:=rt a.tmps (sets k),defers:=[]} A)
  (hdone:∀(W:World),I N W->W.heap[w.heap.size]?=some (.deferred (some []))->Q .normal {a with defers:={target:= .collected w.heap.size,args:=#[]}::a.defers} W)
  (hstop:∀(c:Code) (W:World),Ix c W->W.heap[w.heap.size]?=some (.deferred (some []))->c.wpIn F 0 P Q {a with defers:={target:= .collected w.heap.size,args:=#[]}::a.defers} W):
  (Code.rangeFunc g ps assign body).wpIn F 0 P Q a w:=
 nJ hd hF hro hg eg hy hK hT hps I Ix hI hIx h0 (fun k a' _=>a'={tmps:=rt a.tmps (sets k),defers:=[]}) (fun _ _ _ _ h _=>h)
  (fun l k hk A C hi _ hC=>hassign l k hk A C (hC _ _ (Mod.refl _ _) hi rfl))
  (fun l k hk a' A hi ha hs=>by subst ha;exact hbody l k hk A hi hs) hdone hstop
section
variable {F:Fence} {P:Program} {b:Frame} {a:Act} {k:List Item} {cs:List Frame} {w:World} {Q:Exit->Act->World->Prop}
theorem fq {c:Code}:step P (lone (b.atR a (.code (.scope c)::k)) cs w)= .next (lone (b.atR a (.code c:: .inScope c::k)) cs w):=
 step_lone_go (by simp[stepG,stepG.exec,Frame.atR])
theorem uo {c:Code}:step P (lone (b.atR a (.inScope c::k)) cs w)= .next (lone (b.atR a k) cs w):=
 step_lone_go (by simp[stepG,stepG.exec,Frame.atR])
theorem aV {c:Code} {e:Exit} {a₁:Act} {w₁:World} {m:Machine} {n:Nat} (hb:F.fn b.fn) (hr:F.room (cs.length+1+n)) (hne:∀l,e≠ .goto l)
  (harr:ArrivesIn (Machine.fenced P F) P m b (.inScope c::k) cs e a₁ w₁):ArrivesIn (Machine.fenced P F) P m b k cs e a₁ w₁:=by
 cases e with
 |normal=>exact StepsIn.trans harr (.one (fenced_calm hb hr rfl) uo)
 |exit id=>
  have hx:exitTo id (.inScope c::k)=exitTo id k:=by simp[exitTo]
  exact⟨fun k' hk=>harr.1 k' (by rw[hx];exact hk),fun hr' hk=>let ⟨k₁,h1,h2⟩:=harr.2 hr' (by rw[hx];exact hk);⟨k₁,h1,h2⟩⟩
 |goto l=>exact absurd rfl (hne l)
 |ret=>exact harr
 |panic ch=>exact harr
 |outgrown=>exact harr
theorem oQ {n:Nat} {c rest:Code} (l:Nat) (J:Act->World->Prop) (μ:Act->World->Nat) (hf:findLabel c l=some rest)
  (first:c.wpIn F n P (Exit.jump l J Q) a w)
  (pass:∀a w,J a w->rest.wpIn F n P (Exit.jump l (fun a' w'=>J a' w'/\μ a' w'< μ a w) Q) a w):(Code.scope c).wpIn F n P Q a w:=by
 intro b k cs hro hb hr
 have h0:(lone (b.atR a (.code (.scope c)::k)) cs w).fenced P F:=fenced_calm hb hr rfl
 have hg:gotoIn l (.inScope c::k)=some (.code rest:: .inScope c::k):=by simp[gotoIn,hf]
 have key:∀m a w,μ a w=m->J a w->∃e a' w',Q e a' w'/\ArrivesIn (Machine.fenced P F) P (lone (b.atR a (.code rest:: .inScope c::k)) cs w) b k cs e a' w':=by
  intro m
  induction m using Nat.strongRecOn with
  |_ m ih=>
   intro a w hn hJ
   obtain⟨e,a₁,w₁,hq,harr⟩:=pass a w hJ b (.inScope c::k) cs hro hb hr
   cases e with
   |goto l'=>
    obtain⟨rfl,hJ',hlt⟩:=hq
    obtain⟨e₂,a₂,w₂,hq₂,harr₂⟩:=ih _ (by omega) a₁ w₁ rfl hJ'
    exact⟨e₂,a₂,w₂,hq₂,.of_steps (harr.1 _ hg) harr₂⟩
   |normal=>exact⟨_,a₁,w₁,hq,aV hb hr (fun _ h=>by cases h) harr⟩
   |exit id=>exact⟨_,a₁,w₁,hq,aV hb hr (fun _ h=>by cases h) harr⟩
   |ret=>exact⟨_,a₁,w₁,hq,aV hb hr (fun _ h=>by cases h) harr⟩
   |panic ch=>exact⟨_,a₁,w₁,hq,aV hb hr (fun _ h=>by cases h) harr⟩
   |outgrown=>exact⟨_,a₁,w₁,hq,aV hb hr (fun _ h=>by cases h) harr⟩
 obtain⟨e,a₁,w₁,hq,harr⟩:=first b (.inScope c::k) cs hro hb hr
 cases e with
 |goto l'=>
  obtain⟨rfl,hJ'⟩:=hq
  obtain⟨e₂,a₂,w₂,hq₂,harr₂⟩:=key _ a₁ w₁ rfl hJ'
  exact⟨e₂,a₂,w₂,hq₂,.of_steps (.head h0 fq (harr.1 _ hg)) harr₂⟩
 |normal=>exact⟨_,a₁,w₁,hq,.of_steps (.one h0 fq) (aV hb hr (fun _ h=>by cases h) harr)⟩
 |exit id=>exact⟨_,a₁,w₁,hq,.of_steps (.one h0 fq) (aV hb hr (fun _ h=>by cases h) harr)⟩
 |ret=>exact⟨_,a₁,w₁,hq,.of_steps (.one h0 fq) (aV hb hr (fun _ h=>by cases h) harr)⟩
 |panic ch=>exact⟨_,a₁,w₁,hq,.of_steps (.one h0 fq) (aV hb hr (fun _ h=>by cases h) harr)⟩
 |outgrown=>exact⟨_,a₁,w₁,hq,.of_steps (.one h0 fq) (aV hb hr (fun _ h=>by cases h) harr)⟩
end
theorem zX {F:Fence} {P:Program} {fn:Func} {R:Ending->World->Prop} {tmps:Array Value} {D t u:Nat} {w:World}
  (h:fn.results=#[.tmp t,.tmp u]) (hD:w.heap[D]?=some (.deferred (some []))) (hR:R (.returned (.tuple #[tmps.getD t undef,tmps.getD u undef])) (w.putObj D (.deferred none))):
  bodyPostM F 0 P fn R .ret {tmps:=tmps,defers:=[{target:= .collected D,args:=#[]}]} w:=
 ⟨by simp,.inl ⟨_,_,rfl,run_takeDeferred hD,⟨_,results_tmp2 h _ _ _,hR⟩⟩⟩
theorem df {_F:Fence} {P:Program} {f:FuncId} {args:Array Value} {w:World} {R:Ending->World->Prop} (h:CallsIn Fence.wide 0 P f args w R):Calls P f args w R:=callsIn_wide.1 h
end
section
open Ieee
def dI:Nat:=1074
theorem least:double.leastPlace=-(dI:Int):=by decide
def Holds (x:Nat) (z:Int):Prop:=∃(s:Bool) (m p:Nat),double.read x= .number s m ((p:Int)-(dI:Int))/\signed s m p=z*((2 ^ dI:Nat):Int)
def sg (s:Bool):Int:=if s then-1 else 1
theorem cz (s:Bool) (m p:Nat):signed s m p=sg s*((m*2 ^ p:Nat):Int):=by
 unfold signed sg;rw[Nat.shiftLeft_eq];cases s <;> simp
theorem Kb (s:Bool) (n:Nat):(sg s*(n:Int)).natAbs=n:=by unfold sg;cases s <;> simp
theorem uG (neg:Bool) (n d k:Nat) (hd:d<=n.log2+2) (h:n=k*2 ^ d):Toward.even.cut neg n d=k:=by
 have hp:0< 2 ^ d:=Nat.pow_pos (by omega)
 unfold Toward.cut
 simp only[Nat.min_eq_left hd,Nat.shiftLeft_eq,Nat.one_mul]
 rw[h,Nat.mul_mod_left,Nat.mul_div_cancel _ hp]
 have h1:¬2 ^ d< 2*0:=by omega
 have h2:(2 ^ d==2*0)=false:=by simp
 simp[h2]
theorem Bz {m a p q:Nat} (hm:m≠0) (ha:a≠0) (h:m*2 ^ p=a*2 ^ q):m.log2+p=a.log2+q:=by
 have m1:=Nat.log2_self_le hm
 have m2:=Nat.lt_log2_self (n:=m)
 have a1:=Nat.log2_self_le ha
 have a2:=Nat.lt_log2_self (n:=a)
 have pp:0< 2 ^ p:=Nat.pow_pos (by omega)
 have pq:0< 2 ^ q:=Nat.pow_pos (by omega)
 have x1:2 ^ (m.log2+p)<=m*2 ^ p:=by rw[MQ];exact Mg _ m1
 have x2:m*2 ^ p< 2 ^ (m.log2+p+1):=by rw[show m.log2+p+1=m.log2+1+p by omega,MQ];exact Nat.mul_lt_mul_of_pos_right m2 pp
 have y1:2 ^ (a.log2+q)<=a*2 ^ q:=by rw[MQ];exact Mg _ a1
 have y2:a*2 ^ q< 2 ^ (a.log2+q+1):=by rw[show a.log2+q+1=a.log2+1+q by omega,MQ];exact Nat.mul_lt_mul_of_pos_right a2 pq
 rw[h]at x1 x2
 have z1:=(Nat.pow_lt_pow_iff_right (a:=2) (by omega)).1 (Nat.lt_of_le_of_lt x1 y2)
 have z2:=(Nat.pow_lt_pow_iff_right (a:=2) (by omega)).1 (Nat.lt_of_le_of_lt y1 x2)
 omega
theorem DI (s:Bool) (r k:Nat) (h1:2 ^ 52<=k) (h2:k< 2 ^ 53) (h3:r<=1100):double.read (double.word s (r*2 ^ 52+k))= .number s k (-(dI:Int)+r):=by
 have e1:double.signWeight=9223372036854775808:=by decide
 have e2:double.binade=4503599627370496:=by decide
 have e3:double.infRung=9218868437227405312:=by decide
 have e4:=least
 have hw:double.word s (r*2 ^ 52+k)=(if s then 9223372036854775808 else 0)+(r*4503599627370496+k):=by
  unfold Format.word;rw[e1];cases s <;> simp
 unfold Format.read
 rw[hw,e1,e2,e3,e4]
 have hk1:4503599627370496<=k:=h1
 have hk2:k< 9007199254740992:=h2
 have hm:((if s then 9223372036854775808 else 0)+(r*4503599627370496+k)) %9223372036854775808=r*4503599627370496+k:=by cases s <;> simp <;> omega
 have hd:((if s then 9223372036854775808 else 0)+(r*4503599627370496+k))/9223372036854775808 %2=(if s then 1 else 0):=by cases s <;> simp <;> omega
 simp only[hm,hd]
 rw[if_neg (by omega),if_pos (by omega)]
 have q1:(r*4503599627370496+k) %4503599627370496=k-4503599627370496:=by omega
 have q2:(r*4503599627370496+k)/4503599627370496=r+1:=by omega
 rw[q1,q2]
 have q3:4503599627370496+(k-4503599627370496)=k:=by omega
 rw[q3]
 cases s <;> simp
theorem El (s:Bool):double.read (double.word s 0)= .number s 0 (((0:Nat):Int)-(dI:Int)):=by cases s <;> decide
theorem jE (s:Bool) (m p Q:Nat) (z:Int) (hz:z.natAbs< 2 ^ 53) (h:signed s m p=z*((2 ^ Q:Nat):Int)):Holds (double.nearest s m ((p:Int)-(Q:Int))) z:=by
 unfold Format.nearest
 by_cases hm:m=0
 ·rw[if_pos hm]
  refine⟨s,0,0,El s,?_⟩
  subst hm
  rw[cz]at h ⊢
  have hp:((2 ^ Q:Nat):Int)≠0:=by exact_mod_cast Nat.ne_of_gt (Nat.pow_pos (n:=Q) (show 0< 2 by omega))
  have hz0:z=0:=by
   rw[Nat.zero_mul]at h
   have h2:z*((2 ^ Q:Nat):Int)=0:=by rw[<-h];simp
   rcases Int.mul_eq_zero.1 h2 with h3|h3
   ·exact h3
   ·exact absurd h3 hp
  rw[hz0];simp
 ·rw[if_neg hm]
  obtain⟨a,ha⟩:∃a,z.natAbs=a:=⟨_,rfl⟩
  rw[ha]at hz
  have hpow:0< 2 ^ Q:=Nat.pow_pos (by omega)
  have hma:m*2 ^ p=a*2 ^ Q:=by
   have h1:=congrArg Int.natAbs h
   rw[cz,Kb,Int.natAbs_mul,ha,Int.natAbs_natCast]at h1
   exact h1
  have ha0:a≠0:=by
   rintro rfl
   rw[Nat.zero_mul]at hma
   rcases Nat.mul_eq_zero.1 hma with h1|h1
   ·exact hm h1
   ·exact absurd h1 (Nat.ne_of_gt (Nat.pow_pos (by omega)))
  have hlog:=Bz hm ha0 hma
  have hL:a.log2<=52:=by have:=(Nat.log2_lt ha0 (k:=53)).2 hz;omega
  obtain⟨L,hLe⟩:∃L,a.log2=L:=⟨_,rfl⟩
  rw[hLe]at hlog hL
  have a1:2 ^ L<=a:=by rw[<-hLe];exact Nat.log2_self_le ha0
  have a2:a< 2 ^ (L+1):=by rw[<-hLe];exact Nat.lt_log2_self
  have hb:dI=1074:=rfl
  have hlast:max ((p:Int)-(Q:Int)+(m.log2:Nat)-(double.fractionBits:Nat)) double.leastPlace=(L:Int)-52:=by
   rw[least,show double.fractionBits=52 from rfl,hb];omega
  simp only[hlast]
  obtain⟨K,hK⟩:∃K,a*2 ^ (52-L)=K:=⟨_,rfl⟩
  have hK1:2 ^ 52<=K:=by
   rw[<-hK]
   calc 2 ^ 52=2 ^ L*2 ^ (52-L):=by rw[<-MQ];congr 1;omega
    _<=_:=Mg _ a1
  have hK2:K< 2 ^ 53:=by
   rw[<-hK]
   calc a*2 ^ (52-L)< 2 ^ (L+1)*2 ^ (52-L):=Nat.mul_lt_mul_of_pos_right a2 (Nat.pow_pos (by omega))
    _=2 ^ 53:=by rw[<-MQ];congr 1;omega
  have hkept:Toward.even.cut s (m <<< ((p:Int)-(Q:Int)-((L:Int)-52)).toNat) (((L:Int)-52)-((p:Int)-(Q:Int))).toNat=K:=by
   rw[Nat.shiftLeft_eq]
   by_cases hc:Q+L<=p+52
   ·rw[show(((L:Int)-52)-((p:Int)-(Q:Int))).toNat=0 by omega]
    refine uG _ _ _ _ (LC _) ?_
    rw[Nat.pow_zero,Nat.mul_one,show((p:Int)-(Q:Int)-((L:Int)-52)).toNat=p+52-(Q+L)by omega,<-hK]
    have e:m*2 ^ (p+52-(Q+L))*2 ^ (Q+L)=a*2 ^ (52-L)*2 ^ (Q+L):=by
     rw[MB,<-MQ,MB,<-MQ,show p+52-(Q+L)+(Q+L)=p+52 by omega,show 52-L+(Q+L)=Q+52 by omega,MQ,MQ,<-MB,hma,MB]
    exact Nat.eq_of_mul_eq_mul_right (Nat.pow_pos (by omega)) e
   ·rw[show((p:Int)-(Q:Int)-((L:Int)-52)).toNat=0 by omega,show(((L:Int)-52)-((p:Int)-(Q:Int))).toNat=Q+L-(p+52)by omega,Nat.pow_zero,Nat.mul_one]
    refine uG _ _ _ _ (by omega) ?_
    rw[<-hK,MB,<-MQ,show 52-L+(Q+L-(p+52))=Q-p by omega]
    have e:m*2 ^ p=a*2 ^ (Q-p)*2 ^ p:=by rw[hma,MB,<-MQ];congr 2;omega
    exact Nat.eq_of_mul_eq_mul_right (Nat.pow_pos (by omega)) e
  rw[hkept,show((L:Int)-52-double.leastPlace).toNat=L+1022 by rw[least,hb];omega]
  have e2:double.binade=2 ^ 52:=by decide
  have e3:double.infRung=9218868437227405312:=by decide
  have hmin:min ((L+1022)*double.binade+K) double.infRung=(L+1022)*2 ^ 52+K:=by
   rw[e2,e3]
   exact Nat.min_eq_left (Lt (Nat.add_le_add (Mg _ (show L+1022<=1074 by omega)) (Nat.le_of_lt hK2)) (by decide))
  rw[hmin]
  refine⟨s,K,L+1022,?_,?_⟩
  ·rw[DI s (L+1022) K hK1 hK2 (by omega),show-(dI:Int)+((L+1022:Nat):Int)=((L+1022:Nat):Int)-(dI:Int)by omega]
  ·rw[cz]at h ⊢
   have e4:K*2 ^ (L+1022)=a*2 ^ dI:=by
    rw[<-hK,MB,<-MQ,show 52-L+(L+1022)=dI by rw[hb];omega]
   have e5:sg s*(a:Int)=z:=by
    have h1:(sg s*(a:Int))*((2 ^ Q:Nat):Int)=z*((2 ^ Q:Nat):Int):=by
     rw[<-h,hma,Int.mul_assoc];push_cast;rfl
    exact Int.eq_of_mul_eq_mul_right (by have:=Nat.ne_of_gt hpow;exact_mod_cast this) h1
   rw[e4,<-e5,Int.mul_assoc]
   push_cast;rfl
theorem lK (n:Int) (h:n.natAbs< 2 ^ 53):Holds (floatOfInt .f64 n) n:=by
 have h1:floatOfInt .f64 n=double.nearest (decide (n< 0)) n.natAbs (((0:Nat):Int)-((0:Nat):Int)):=rfl
 rw[h1]
 refine jE _ _ 0 0 n h ?_
 rw[cz]
 unfold sg
 by_cases h2:n< 0
 ·rw[decide_eq_true h2,if_pos rfl];simp;omega
 ·rw[decide_eq_false h2,if_neg (by simp)];simp;omega
theorem tT (s:Bool) (m p:Nat):signed (!s) m p=-signed s m p:=by rw[cz,cz];cases s <;> simp[sg]
theorem xw (s t:Bool) (m n p q:Nat):signed (s ^^ t) (m*n) (p+q)=signed s m p*signed t n q:=by
 rw[cz,cz,cz]
 have e:((m*n*2 ^ (p+q):Nat):Int)=((m*2 ^ p:Nat):Int)*((n*2 ^ q:Nat):Int):=by
  rw[<-M5];congr 1;rw[MQ];ac_rfl
 rw[e]
 generalize ((m*2 ^ p:Nat):Int)=u
 generalize ((n*2 ^ q:Nat):Int)=v
 cases s <;> cases t <;> simp[sg,Int.neg_mul,Int.mul_neg]
theorem jo (s:Bool) (m p b:Nat) (h:b<=p):signed s m (p-b)*((2 ^ b:Nat):Int)=signed s m p:=by
 rw[cz,cz,Int.mul_assoc,<-M5,MB,<-MQ,Nat.sub_add_cancel h]
theorem lJ {x y:Nat} {a b:Int} (hx:Holds x a) (hy:Holds y b) (h:(a*b).natAbs< 2 ^ 53):∃r,floatBits .mul .f64 x y=some r/\Holds r (a*b):=by
 obtain⟨s,m,p,h1,h2⟩:=hx
 obtain⟨t,n,q,h3,h4⟩:=hy
 refine⟨double.nearest (s ^^ t) (m*n) ((p:Int)-(dI:Int)+((q:Int)-(dI:Int))),?_,?_⟩
 ·show double.mul x y=_
  unfold Format.mul
  rw[h1,h3];rfl
 ·rw[show(p:Int)-(dI:Int)+((q:Int)-(dI:Int))=((p+q:Nat):Int)-((dI+dI:Nat):Int)by omega]
  refine jE _ _ _ _ _ h ?_
  rw[xw,h2,h4,MQ,M5]
  generalize ((2 ^ dI:Nat):Int)=t
  ac_rfl
theorem vD {s t:Bool} {m n p q:Nat} {a b:Int} (h2:signed s m p=a*((2 ^ dI:Nat):Int)) (h4:signed t n q=b*((2 ^ dI:Nat):Int)) (h:(a+b).natAbs< 2 ^ 53):
  ∃r,((Datum.number s m ((p:Int)-(dI:Int))).sum (.number t n ((q:Int)-(dI:Int)))).map double.write=some r/\Holds r (a+b):=by
 obtain⟨c,hc⟩:∃c,min p q=c:=⟨_,rfl⟩
 have hbase:min ((p:Int)-(dI:Int)) ((q:Int)-(dI:Int))=(c:Int)-(dI:Int):=by omega
 obtain⟨T,hT⟩:∃T,signed s m (p-c)+signed t n (q-c)=T:=⟨_,rfl⟩
 have hT2:T*((2 ^ c:Nat):Int)=(a+b)*((2 ^ dI:Nat):Int):=by
  rw[<-hT,Int.add_mul,jo _ _ _ _ (by omega),jo _ _ _ _ (by omega),h2,h4,Int.add_mul]
 refine⟨double.nearest (if T=0 then s&&t else decide (T< 0)) T.natAbs ((c:Int)-(dI:Int)),?_,?_⟩
 ·unfold Datum.sum
  simp only[hbase]
  rw[show((p:Int)-(dI:Int)-((c:Int)-(dI:Int))).toNat=p-c by omega,show((q:Int)-(dI:Int)-((c:Int)-(dI:Int))).toNat=q-c by omega,hT]
  rfl
 ·refine jE _ _ _ _ _ h ?_
  rw[<-hT2,cz]
  unfold sg
  by_cases h0:T=0
  ·subst h0;simp
  ·rw[if_neg h0]
   by_cases h5:T< 0
   ·rw[decide_eq_true h5,if_pos rfl,M5,<-Int.mul_assoc];congr 1;omega
   ·rw[decide_eq_false h5,if_neg (by simp),M5,<-Int.mul_assoc];congr 1;omega
theorem En {x y:Nat} {a b:Int} (hx:Holds x a) (hy:Holds y b) (h:(a+b).natAbs< 2 ^ 53):∃r,floatBits .add .f64 x y=some r/\Holds r (a+b):=by
 obtain⟨s,m,p,h1,h2⟩:=hx
 obtain⟨t,n,q,h3,h4⟩:=hy
 obtain⟨r,h5,h6⟩:=vD h2 h4 h
 refine⟨r,?_,h6⟩
 show double.add x y=_
 unfold Format.add
 rw[h1,h3];exact h5
theorem Ec {x y:Nat} {a b:Int} (hx:Holds x a) (hy:Holds y b) (h:(a-b).natAbs< 2 ^ 53):∃r,floatBits .sub .f64 x y=some r/\Holds r (a-b):=by
 obtain⟨s,m,p,h1,h2⟩:=hx
 obtain⟨t,n,q,h3,h4⟩:=hy
 have h4':signed (!t) n q=(-b)*((2 ^ dI:Nat):Int):=by rw[tT,h4,Int.neg_mul]
 obtain⟨r,h5,h6⟩:=vD h2 h4' (by rw[<-Int.sub_eq_add_neg];exact h)
 refine⟨r,?_,by rw[Int.sub_eq_add_neg];exact h6⟩
 show double.sub x y=_
 unfold Format.sub
 rw[h1,h3];exact h5
theorem mM {a b:Int} {n:Nat} (h:0< n):compare (a*(n:Int)) (b*(n:Int))=compare a b:=by
 have hn:(0:Int)< (n:Int):=by omega
 rcases Int.lt_trichotomy a b with h1|h1|h1
 ·rw[Int.compare_eq_lt.2 h1,Int.compare_eq_lt.2 (Int.mul_lt_mul_of_pos_right h1 hn)]
 ·subst h1;simp
 ·rw[Int.compare_eq_gt.2 h1,Int.compare_eq_gt.2 (Int.mul_lt_mul_of_pos_right h1 hn)]
theorem zm {x y:Nat} {a b:Int} (hx:Holds x a) (hy:Holds y b):double.order x y=some (compare a b):=by
 obtain⟨s,m,p,h1,h2⟩:=hx
 obtain⟨t,n,q,h3,h4⟩:=hy
 unfold Format.order
 rw[h1,h3]
 unfold Datum.order
 obtain⟨c,hc⟩:∃c,min p q=c:=⟨_,rfl⟩
 have hbase:min ((p:Int)-(dI:Int)) ((q:Int)-(dI:Int))=(c:Int)-(dI:Int):=by omega
 simp only[hbase]
 rw[show((p:Int)-(dI:Int)-((c:Int)-(dI:Int))).toNat=p-c by omega,show((q:Int)-(dI:Int)-((c:Int)-(dI:Int))).toNat=q-c by omega]
 congr 1
 rw[<-mM (n:=2 ^ c) (Nat.pow_pos (by omega)),jo _ _ _ _ (by omega),jo _ _ _ _ (by omega),h2,h4,mM (Nat.pow_pos (by omega))]
theorem holds_zero:Holds 0 0:=⟨false,0,0,by decide,by simp[signed]⟩
theorem FK (x:Nat):(x ^^^ 2 ^ 63) %2 ^ 63=x %2 ^ 63:=by
 rw[Nat.xor_mod_two_pow,Nat.mod_self,Nat.xor_zero]
theorem Gz (x:Nat):((x ^^^ 2 ^ 63)/2 ^ 63 %2==1)=!(x/2 ^ 63 %2==1):=by
 rw[<-Nat.shiftRight_eq_div_pow,Nat.shiftRight_xor_distrib,Nat.shiftRight_eq_div_pow,Nat.shiftRight_eq_div_pow,Nat.div_self (by decide)]
 generalize x/2 ^ 63=y
 have h:(y ^^^ 1) %2=(y %2) ^^^ 1:=Nat.xor_mod_two_pow (n:=1)
 rw[h]
 rcases Nat.mod_two_eq_zero_or_one y with h|h <;> simp[h]
theorem Fs {x:Nat} {s:Bool} {m:Nat} {e:Int} (h:double.read x= .number s m e):double.read (Op.negFloat .f64 x)= .number (!s) m e:=by
 have e1:double.signWeight=2 ^ 63:=by decide
 have e2:Op.negFloat .f64 x=x ^^^ 2 ^ 63:=rfl
 unfold Format.read at h ⊢
 rw[e2,e1,FK,Gz]
 rw[e1]at h
 generalize (x/2 ^ 63 %2==1)=a at h ⊢
 generalize x %2 ^ 63=r at h ⊢
 simp only at h ⊢
 split at h
 ·rename_i h1
  rw[if_pos h1]
  injection h with q1 q2 q3
  subst q1 q2 q3
  rfl
 ·rename_i h1
  rw[if_neg h1]
  split at h
  ·rename_i h2
   rw[if_pos h2]
   injection h with q1 q2 q3
   subst q1 q2 q3
   rfl
  ·split at h
   ·cases h
   ·cases h
theorem D9 {x:Nat} {a:Int} (h:Holds x a):Holds (Op.negFloat .f64 x) (-a):=by
 obtain⟨s,m,p,h1,h2⟩:=h
 exact⟨!s,m,p,Fs h1,by rw[tT,h2,Int.neg_mul]⟩
theorem AL {a b c d:Nat} {A B C D:Int} (ha:Holds a A) (hb:Holds b B) (hc:Holds c C) (hd:Holds d D) (h1:(A*C).natAbs< 2 ^ 53) (h2:(B*D).natAbs< 2 ^ 53) (h3:(A*C-B*D).natAbs< 2 ^ 53) (h4:(A*D).natAbs< 2 ^ 53) (h5:(B*C).natAbs< 2 ^ 53) (h6:(A*D+B*C).natAbs< 2 ^ 53):
  ∃re im,cMulBits a b c d=some (re,im)/\Holds im (A*D+B*C):=by
 obtain⟨ac,e1,g1⟩:=lJ ha hc h1
 obtain⟨bd,e2,g2⟩:=lJ hb hd h2
 obtain⟨re,e3,g3⟩:=Ec g1 g2 h3
 obtain⟨ad,e4,g4⟩:=lJ ha hd h4
 obtain⟨bc,e5,g5⟩:=lJ hb hc h5
 obtain⟨im,e6,g6⟩:=En g4 g5 h6
 refine⟨re,im,?_,g6⟩
 unfold cMulBits
 rw[e1,Option.bind_some,e2,Option.bind_some,e3,Option.bind_some,e4,Option.bind_some,e5,Option.bind_some,e6]
 rfl
end
section
theorem dC {W w1:World} {B:Nat} (hb:Below B W w1):(∀b o,b< B->w1.cell? ⟨b,o,none⟩=W.cell? ⟨b,o,none⟩)/\(∀b o,b< B->w1.frozen? ⟨b,o,none⟩=W.frozen? ⟨b,o,none⟩)/\(∀b,b< W.heap.size->b< w1.heap.size):=
 ⟨(aL hb).1,(aL hb).2,fun _ h=>Nat.lt_of_lt_of_le h hb.size⟩
abbrev SB (w W:World):Prop:=(∀b o,b< w.heap.size->W.cell? ⟨b,o,none⟩=w.cell? ⟨b,o,none⟩)/\(∀b o,b< w.heap.size->W.frozen? ⟨b,o,none⟩=w.frozen? ⟨b,o,none⟩)/\w.heap.size<=W.heap.size/\Below w.heap.size w W
section
variable {w W W':World}
theorem SB.of (h:Below w.heap.size w W):SB w W:=⟨(aL h).1,(aL h).2,h.size,h⟩
theorem SB.bel (h:SB w W):Below w.heap.size w W:=h.2.2.2
theorem SB.init:SB w w.drew:=SB.of (Lg _ _).drew
theorem SB.below (hb:Below W.heap.size W W') (h:SB w W):SB w W':=SB.of (aa h.bel hb)
theorem SB.alloc (x:Obj) (h:SB w W):SB w (W.alloc x):=SB.of (h.bel.alloc h.bel.size x)
theorem SB.le (hb:Below W.heap.size W W') (h:SB w W):w.heap.size<=W'.heap.size:=Lt h.2.2.1 hb.size
end
theorem cZ (W:World) (t:TypeId) (cs:Array Value):Sl (W.alloc (.cells cs t)) (some ⟨W.heap.size,0,none⟩) cs.toList:=
 (Blk.new W t cs).sl 0 _ (by intro j u hu;simpa using hu)
end
theorem Et:prog.stoodInHeld 183=false:=by kernel_rfl
theorem oK:prog.eqGuardType prog.depth 183=false:=by kernel_rfl
def Ic (a b:Ent):Bool:=decide (a≠b)
theorem qx (a b:Ent) (w:World):
  (binOp .neq 183 (.agg #[.int .i64 a.key,.int .i64 a.val,.bool a.dead]) (.agg #[.int .i64 b.key,.int .i64 b.val,.bool b.dead])).run prog w= .ok (.bool (Ic a b)) w:=by
 have h1:=Et
 have h2:=oK
 have h3:=underlying183
 obtain⟨k,v,d⟩:=a
 obtain⟨k',v',d'⟩:=b
 simp only[go_sem,h1,h3]
 simp[go_sem,Ic]
 by_cases hk:k=k' <;> by_cases hv:v=v' <;> by_cases hd:d=d' <;> simp[hk,hv,hd]
def aY (e:Ent):Bool:=e.dead&&(e.val !=0)
theorem DT (e:Ent) (w:World):
  Calls prog 287 #[.agg #[.int .i64 e.key,.int .i64 e.val,.bool e.dead]] w fun r w'=>r= .returned (.bool (aY e))/\Below w.heap.size w w':=by
 obtain⟨k,v,d⟩:=e
 cases d
 ·go_enter func287,ntmps287
  go_wp2
  go_ret
  exact⟨rfl,(Lg _ _).alloc (Lf _) _⟩
 ·go_enter func287,ntmps287
  go_wp2
  go_ret
  exact⟨rfl,(Lg _ _).alloc (Lf _) _⟩
theorem uy (A:Option Addr) (l:List Ent) (c:Nat) (w:World) (hA:Sl w A (l.flatMap Ent.cells)) (hl:l.length<=4611686018427387903):
  Calls prog 295 #[.slice A l.length c,.func (.func 287) #[] #[]] w
   fun r w'=>(∃n:Int,r= .returned (.int .i64 n)/\decide (n≥0)=l.any aY)/\Below w.heap.size w w':=by
 go_enter func295,ntmps295
 go_wp2
 go_loopw [8] (fun i wr=>∃k:Nat,k<=l.length/\i= .int .i64 k/\Below w.heap.size w wr/\(l.take k).any aY=false) (fun i _=>l.length-(intOf i).toNat)
 case atStart=>exact⟨0,LC _,rfl,Lg _ _,rfl⟩
 case round=>
  obtain⟨k,hk,rfl,hb,hn⟩:=hrel
  by_cases hlt:k< l.length
  ·obtain⟨b,off,rfl,hbl,c1,c2,c3⟩:=(hA.below hb).ent k hlt
   go_wp2_with (go_at_call 287;refine(DT (l[k]'hlt) _).mono ?_;rintro e w1 ⟨rfl,hb1⟩)
   ·have hbad:aY (l[k]'hlt)=true:=by assumption
    go_ret
    refine⟨⟨(k:Int),rfl,?_⟩,hb.trans (hb1.mono hb.size)⟩
    rw[List.any_eq_true.2 ⟨_,LP hlt,hbad⟩]
    simp
   ·have hbad:aY (l[k]'hlt)=false:=by assumption
    go_roundw
    case rel=>exact⟨k+1,by omega,by go_num,hb.trans (hb1.mono hb.size),by rw[LG hlt,List.any_append,hn];simp[hbad]⟩
    case measure=>simp[intOf];omega
  ·go_wp2
   go_ret
   refine⟨⟨-1,rfl,?_⟩,hb⟩
   rw[LF (by omega)]at hn
   rw[hn];rfl
theorem o7 (A:Option Addr) (l:List Ent) (c:Nat) (w:World) (hA:Sl w A (l.flatMap Ent.cells)) (hl:l.length<=4611686018427387903):
  Calls prog 286 #[.slice A l.length c,.func (.func 287) #[] #[]] w
   fun r w'=>r= .returned (.bool (l.any aY))/\Below w.heap.size w w':=by
 go_enter func286,ntmps286
 go_wp2_with (go_at_call 295;refine(uy A l c _ hA hl).mono ?_;rintro e w1 ⟨⟨n,rfl,hn⟩,hb⟩;have hH:=Lc hn;clear hn)
 go_ret
 exact⟨aJ (by rw[<-hH.out]),hb⟩
def bS (l:List Ent):Int:=if l.length>65536 then 4 else if l.any aY then 8 else 0
theorem lu (A:Option Addr) (l:List Ent) (c:Nat) (w:World) (hA:Sl w A (l.flatMap Ent.cells)) (hl:l.length<=4611686018427387903):
  Calls prog 280 #[.slice A l.length c] w fun r w'=>r= .returned (.int .i64 (bS l))/\Below w.heap.size w w':=by
 by_cases h1:l.length>65536
 ·go_enter func280,ntmps280
  go_wp2
  go_ret
  exact⟨aH (by unfold bS;rw[if_pos h1]),Lg _ _⟩
 ·go_enter func280,ntmps280
  go_wp2_with (go_at_call 286;refine(o7 A l c _ hA hl).mono ?_;rintro e w1 ⟨rfl,hb⟩)
  ·have h2:l.any aY=true:=by assumption
   go_ret
   exact⟨aH (by unfold bS;rw[if_neg h1,if_pos h2]),hb⟩
  ·have h2:l.any aY=false:=by assumption
   go_ret
   exact⟨aH (by unfold bS;rw[if_neg h1,h2];rfl),hb⟩
def jg (l:List Ent):Int:=if rises (l.map Ent.key)then 0 else 130
theorem nk (A:Option Addr) (l:List Ent) (c:Nat) (w:World) (hA:Sl w A (l.flatMap Ent.cells)) (hl:l.length<=4611686018427387903):
  Calls prog 281 #[.slice A l.length c] w fun r w'=>r= .returned (.int .i64 (jg l))/\Below w.heap.size w w':=by
 go_enter func281,ntmps281
 go_wp2
 go_loopw [3] (fun i wr=>∃k:Nat,1<=k/\i= .int .i64 k/\Below w.heap.size w wr/\Hid (RiseTo (l.map Ent.key) k)) (fun i _=>l.length-(intOf i).toNat)
 case atStart=>exact⟨1,Lf _,rfl,Lg _ _,RiseTo.start _⟩
 case round=>
  obtain⟨k,hk,rfl,hb,hn⟩:=hrel
  by_cases hlt:k< l.length
  ·obtain⟨b,off,rfl,hbl,c1,c2,c3⟩:=(hA.below hb).ent k hlt
   obtain⟨b',off',e,_,d1,d2,d3⟩:=(hA.below hb).ent (k-1) (by omega)
   simp only[Option.some.injEq,Addr.mk.injEq]at e
   obtain⟨rfl,rfl,_⟩:=e
   have i0:(0:Int)<=(k:Int):=by omega
   have i1:(k:Int)< (l.length:Int):=by omega
   have i2:(0:Int)<=(k:Int)-1:=by omega
   have i3:(k:Int)-1< (l.length:Int):=by omega
   clear c2 c3 d2 d3 hA
   go_wp2
   go_quiet (fail)
   go_wp2
   ·have hx:(l[k]'hlt).key<=(l[k-1]'(by omega)).key:=by assumption
    go_ret
    refine⟨aH ?_,av hb _⟩
    unfold jg
    rw[RiseTo.no hk (by simpa using hlt) (by simpa using hx)]
    rfl
   ·have hx:(l[k-1]'(by omega)).key< (l[k]'hlt).key:=by assumption
    go_roundw
    case rel=>exact⟨k+1,by omega,by go_num,av hb _,hn.out.step hk (by simpa using hlt) (by simpa using hx)⟩
    case measure=>simp[intOf];omega
  ·go_wp2
   go_ret
   refine⟨aH ?_,hb⟩
   unfold jg
   rw[hn.out.all (by simp;omega)]
   rfl
def eu (n:Int):Bool:=decide (-67108864< n)&&decide (n< 67108864)
def iv (n:Int):Value:= .int .i64 n
theorem uH (A:Option Addr) (l:List Int) (c:Nat) (w:World) (hA:Sl w A (l.map iv)) (hl:l.length<=1000000) (hs:∀n∈l,eu n=true):
  Calls prog 228 #[.slice A l.length c] w fun r w'=>r= .returned (.bool true)/\w'=w:=by
 have HA:=Lc hA
 have HS:=Lc hs
 clear hA hs
 go_enter func228,ntmps228
 go_wp2
 go_loopw [7] (fun i wr=>∃k:Nat,k<=l.length/\i= .int .i64 k/\wr=w) (fun i _=>l.length-(intOf i).toNat)
 case atStart=>exact⟨0,LC _,rfl,rfl⟩
 case round=>
  obtain⟨k,hk,rfl,hw⟩:=hrel
  have hw2:=hw.symm
  subst hw2
  by_cases hlt:k< l.length
  ·obtain⟨b,off,rfl,hbl,cp⟩:=HA.out.oneB (Lg _ _) k hlt
   have hsm:=HS.out _ (LP hlt)
   obtain⟨n,hn⟩:∃n,l[k]'hlt=n:=⟨_,rfl⟩
   rw[hn]at cp hsm
   unfold eu at hsm
   rw[Bool.and_eq_true,decide_eq_true_iff,decide_eq_true_iff]at hsm
   have cp1:w.cell? ⟨b,off+k,none⟩=some (.int .i64 n):=cp
   have g1:¬n<=-67108864:=by omega
   have g2:¬67108864<=n:=by omega
   have i0:(0:Int)<=(k:Int):=by omega
   have i1:(k:Int)< (l.length:Int):=by omega
   clear cp hsm hn
   go_wp2
   go_roundw
   case rel=>exact⟨k+1,by omega,by go_num,by first|trivial|rfl⟩
   case measure=>simp[intOf];omega
  ·go_wp2
   go_ret
   exact⟨rfl,rfl⟩
def zw (x:Int):Int:=if 0< x then 1 else if x< 0 then-1 else 0
theorem EH (x:Nat) (w:World):(Op.unary .neg (.float .f64 x)).run prog w= .ok (.float .f64 (Op.negFloat .f64 x)) w:=by
 rfl
theorem qK {x y:Int} (hx:-67108864< x/\x< 67108864) (hy:-67108864< y/\y< 67108864):(x*y).natAbs< 2 ^ 52:=by
 rw[Int.natAbs_mul]
 have h1:x.natAbs< 2 ^ 26:=by omega
 have h2:y.natAbs< 2 ^ 26:=by omega
 have h3:=Nat.mul_lt_mul'' h1 h2
 simpa using h3
theorem JY (a b c d:Int):zw (a*d-b*c)=if 0< a*-d+b*c then-1 else if a*-d+b*c< 0 then 1 else 0:=by
 have h:a*-d=-(a*d):=Int.mul_neg a d
 rw[h]
 generalize a*d=p
 generalize b*c=q
 unfold zw
 split <;> split <;> first|omega|(split <;> omega)|rfl|(rw[if_pos (by omega)])
theorem ve (a b c d:Int) (w:World) (ha:eu a=true) (hb:eu b=true) (hc:eu c=true) (hd:eu d=true):
  Calls prog 222 #[.int .i64 a,.int .i64 b,.int .i64 c,.int .i64 d] w fun r w'=>r= .returned (.tuple #[.int .i64 (zw (a*d-b*c)),.int .i64 0])/\Below w.heap.size w w':=by
 have HS:Hid (∀n∈[a,b,c,d],eu n=true):=fun n hn=>by
  simp at hn
  rcases hn with rfl|rfl|rfl|rfl <;> assumption
 go_enter func222,ntmps222
 go_wp2_with fail
 refine(uH (some ⟨w.heap.size,0,none⟩) [a,b,c,d] 4 _ (by exact cZ _ _ _) (by simp) HS.out).mono ?_
 rintro e w1 ⟨rfl,hw1⟩
 subst hw1
 have hbd:=fun n (h:eu n=true)=>(show-67108864< n/\n< 67108864 by unfold eu at h;rw[Bool.and_eq_true,decide_eq_true_iff,decide_eq_true_iff]at h;exact h)
 have qa:=hbd a ha
 have qb:=hbd b hb
 have qc:=hbd c hc
 have qd:=hbd d hd
 obtain⟨fa,ha1⟩:∃x,floatOfInt .f64 a=x:=⟨_,rfl⟩
 obtain⟨fb,hb1⟩:∃x,floatOfInt .f64 b=x:=⟨_,rfl⟩
 obtain⟨fc,hc1⟩:∃x,floatOfInt .f64 c=x:=⟨_,rfl⟩
 obtain⟨fd,hd1⟩:∃x,floatOfInt .f64 d=x:=⟨_,rfl⟩
 have ga:Holds fa a:=by rw[<-ha1];exact lK a (by omega)
 have gb:Holds fb b:=by rw[<-hb1];exact lK b (by omega)
 have gc:Holds fc c:=by rw[<-hc1];exact lK c (by omega)
 have gd:Holds fd d:=by rw[<-hd1];exact lK d (by omega)
 have hn:=fun w=>EH fd w
 have gn:=D9 gd
 obtain⟨fn,hfn⟩:∃x,Op.negFloat .f64 fd=x:=⟨_,rfl⟩
 rw[hfn]at hn gn
 have qn:-67108864< -d/\-d< 67108864:=by omega
 have p1:=qK qa qc
 have p2:=qK qb qn
 have p3:=qK qa qn
 have p4:=qK qb qc
 obtain⟨re,im,hcm,gi⟩:=AL ga gb gc gn (by omega) (by omega) (by omega) (by omega) (by omega) (by omega)
 have hm:=fun w=>run_complex_mul (P:=prog) w 270 fa fb fc fn re im hcm
 have hord:FloatKind.f64.format.order im 0=some (compare (a*-d+b*c) 0):=zm gi holds_zero
 have HSG:=Lc (JY a b c d)
 obtain⟨z,hz⟩:∃z,a*-d+b*c=z:=⟨_,rfl⟩
 rw[hz]at hord HSG
 have HB1:Hid (Below w.heap.size w (w.alloc (.cells #[.int .i64 a,.int .i64 b,.int .i64 c,.int .i64 d] 3))):=(Lg _ _).alloc (Lf _) _
 clear qa qb qc qd hbd HS ha hb hc hd hfn qn p1 p2 p3 p4 hcm hz gi
 by_cases z1:0< z
 ·rw[Int.compare_eq_gt.2 z1]at hord
  have HV:Hid (zw (a*d-b*c)=-1):=by show _=_;rw[HSG.out,if_pos z1]
  clear z1
  go_wp2_with fail
  refine bodyPost_ret (v:= .tuple #[.int .i64 (-1),.int .i64 0]) (by simp[results,results222,go_sem]) rfl ?_
  exact⟨by rw[HV.out],HB1.out⟩
 ·by_cases z2:z< 0
  ·rw[Int.compare_eq_lt.2 z2]at hord
   have HV:Hid (zw (a*d-b*c)=1):=by show _=_;rw[HSG.out,if_neg z1,if_pos z2]
   go_wp2_with fail
   refine bodyPost_ret (v:= .tuple #[.int .i64 1,.int .i64 0]) (by simp[results,results222,go_sem]) rfl ?_
   exact⟨by rw[HV.out],HB1.out⟩
  ·rw[Int.compare_eq_eq.2 (by omega)]at hord
   have HV:Hid (zw (a*d-b*c)=0):=by show _=_;rw[HSG.out,if_neg z1,if_neg z2]
   go_wp2_with fail
   refine bodyPost_ret (v:= .tuple #[.int .i64 0,.int .i64 0]) (by simp[results,results222,go_sem]) rfl ?_
   exact⟨by rw[HV.out],HB1.out⟩
def uv (n:Int):Value:= .int .u64 n
def Dr (w w':World):Prop:=∃j,w'=w.drewN j
theorem Dr.refl (w:World):Dr w w:=⟨0,rfl⟩
theorem Dr.step {w wr:World} (h:Dr w wr) (n:Nat):Dr w (wr.drewN n):=by obtain⟨j,rfl⟩:=h;exact⟨j+n,World.drewN_drewN _ _ _⟩
theorem Dr.below {w w':World} (h:Dr w w') {B:Nat}:Below B w w':=by obtain⟨j,rfl⟩:=h;exact av (Lg _ _) j
def jc (e:TypeId) (xs:List Value) (n:Nat) (w:World) (r:Ending) (w':World):Prop:=∃A c,r= .returned (.slice A n c)/\w'.ownsRow w.heap.size e 1 (.slice A n c) n xs/\Below w.heap.size w w'
theorem fI (f:Int->Value) (l:List Int) (hf:∀n,(f n).oneCell'=true):∀u∈l.map f,u.oneCell'=true:=by
 intro u hu
 obtain⟨n,_,rfl⟩:=List.mem_map.1 hu
 exact hf n
theorem BX {w:World} {f:Int->Value} {l:List Int} (h:Sl w none (l.map f)):l=[]:=by
 rcases h with h|⟨b,off,h,_⟩
 ·cases l with
  |nil=>rfl
  |cons a l=>simp at h
 ·cases h
theorem uJ {P a b:Prop} (_:a) (_:b) (h:P:=by
 by_cases hlen:l.length=m.length
 ·have hz:((l.length:Int)!=(m.length:Int))=false:=by simp[hlen]
  have hz2:(l.length:Int)<=(m.length:Int):=by omega
  have HL:=Lc hlen
  clear hlen
  first|go_enter func122,ntmps122|go_enter func75,ntmps75|go_enter func123,ntmps123|go_enter func76,ntmps76|go_enter func146,ntmps146|go_enter func74,ntmps74
  go_wp2
  first|((first|have mz:=mk0|have mz:=mk2|have mz:=mk4);clear mz;go_loopw [13] (fun i wr=>∃k:Nat,k<=l.length/\i= .int .i64 k/\Below w.heap.size w wr/\Hid (l.take k=m.take k)/\Hid (Dr w wr)) (fun i _=>l.length-(intOf i).toNat))|((first|have mz:=mk1|have mz:=mk3|have mz:=mk5);clear mz;go_loopw [5] (fun i wr=>∃k:Nat,k<=l.length/\i= .int .i64 k/\Below w.heap.size w wr/\Hid (l.take k=m.take k)/\Hid (Dr w wr)) (fun i _=>l.length-(intOf i).toNat))
  case atStart=>exact⟨0,LC _,rfl,Lg _ _,rfl,Dr.refl _⟩
  case round=>
   obtain⟨k,hk,rfl,hb,hn,HDR⟩:=hrel
   by_cases hlt:k< l.length
   ·have hlt2:k< m.length:=by have:=HL.out;omega
    obtain⟨b,off,rfl,hbl,c1⟩:=hA.oneB hb k hlt
    obtain⟨b',off',rfl,hbl',d1⟩:=hB.oneB hb k hlt2
    obtain⟨x,hx⟩:∃x,l[k]'hlt=x:=⟨_,rfl⟩
    obtain⟨y,hy⟩:∃x,m[k]'hlt2=x:=⟨_,rfl⟩
    rw[hx]at c1
    rw[hy]at d1
    first|((first|have mz:=mk0|have mz:=mk1|have mz:=mk2|have mz:=mk3);clear mz;have c2:wr.cell? ⟨b,off+k,none⟩=some (.int .i64 x):=c1)|((first|have mz:=mk4|have mz:=mk5);clear mz;have c2:wr.cell? ⟨b,off+k,none⟩=some (.int .u64 x):=c1)
    first|((first|have mz:=mk0|have mz:=mk1|have mz:=mk2|have mz:=mk3);clear mz;have d2:wr.cell? ⟨b',off'+k,none⟩=some (.int .i64 y):=d1)|((first|have mz:=mk4|have mz:=mk5);clear mz;have d2:wr.cell? ⟨b',off'+k,none⟩=some (.int .u64 y):=d1)
    have HX:=Lc hx
    have HY:=Lc hy
    have i0:(0:Int)<=(k:Int):=by omega
    have i1:(k:Int)< (l.length:Int):=by omega
    have i2:(k:Int)< (m.length:Int):=by omega
    clear hA hB c1 d1 hx hy
    by_cases hxy:x=y
    ·have q1:(x !=y)=false:=by simpa using hxy
     have HXY:=Lc hxy
     clear hxy
     go_wp2
     go_quiet (fail)
     go_wp2
     go_roundw
     case rel=>
      refine⟨k+1,by omega,by go_num,av hb _,?_,HDR.out.step _⟩
      show _=_
      rw[LG hlt,LG hlt2,hn.out,HX.out,HY.out,HXY.out]
     case measure=>simp[intOf];omega
    ·have q1:(x !=y)=true:=by simpa using hxy
     have HXY:=Lc hxy
     clear hxy
     go_wp2
     go_quiet (fail)
     go_wp2
     go_ret
     refine⟨aJ ?_,HDR.out.step _⟩
     symm
     rw[decide_eq_false_iff_not]
     rintro rfl
     exact HXY.out (HX.out.symm.trans HY.out)
   ·go_wp2
    go_ret
    refine⟨aJ ?_,HDR.out⟩
    have:=hn.out
    rw[LF (by omega),LF (by have:=HL.out;omega)]at this
    rw[this,decide_eq_true rfl]
 ·have hz:((l.length:Int)!=(m.length:Int))=true:=by simp;omega
  have HL:=Lc hlen
  clear hlen
  first|go_enter func122,ntmps122|go_enter func75,ntmps75|go_enter func123,ntmps123|go_enter func76,ntmps76|go_enter func146,ntmps146|go_enter func74,ntmps74
  go_wp2
  go_ret
  refine⟨aJ ?_,Dr.refl _⟩
  symm
  rw[decide_eq_false_iff_not]
  rintro rfl
  exact HL.out rfl):P:=h
theorem wB (A B:Option Addr) (l m:List Int) (c d:Nat) (w:World) (hA:Sl w A (l.map iv)) (hB:Sl w B (m.map iv)) (hl:l.length<=4611686018427387903) (hm:m.length<=4611686018427387903):
  Calls prog 122 #[.slice A l.length c,.slice B m.length d] w fun r w'=>r= .returned (.bool (decide (l=m)))/\Dr w w':=by
 have mk0:=()
 exact uJ hl hm
theorem rD:(prog.info? 2).map (fun i=>(i.zero,i.size,i.bytes))=some (some (.int .i64 0),1,8):=by kernel_rfl
theorem mW (A:Option Addr) (l:List Int) (c:Nat) (w:World) (hA:Sl w A (l.map iv)) (hl:l.length<=1000000):
  Calls prog 127 #[.slice A l.length c] w (jc 2 (l.map iv) l.length w):=by
 obtain⟨i0,hi,hz0,hz1,hz2⟩:=info_parts rD
 have hn:(binOp .eql 26 (.slice A l.length c) (.slice none 0 0)).run prog w= .ok (.bool A.isNone) w:=Nw w _ _ A l.length c _ _ underlying26
 cases A with
 |none=>
  have hnil:=BX hA
  subst hnil
  have hn2:∀n,(binOp .eql 26 (.slice none n c) (.slice none 0 0)).run prog w= .ok (.bool true) w:=fun n=>Nw w _ _ none n c _ _ underlying26
  clear hn
  go_enter func127,ntmps127
  go_wp2
  go_ret
  exact⟨none,0,rfl,L6 _ _ _ _,Lg _ _⟩
 |some a=>
  have hb0:Below w.heap.size w (w.alloc (.cells #[] 2)):=(Lg _ _).alloc (Lf _) _
  have hown0:(w.alloc (.cells #[] 2)).ownsRow w.heap.size 2 1 (.slice (some ⟨w.heap.size,0,none⟩) 0 0) 0 []:=Nc w #[] 0 (Lf _) (LC _) rfl
  go_enter func127,ntmps127
  go_wp2_with (at_builtin;refine ag _ rfl (.tmp 5) (.tmp 6) _ rfl w.heap.size 2 i0 _ 1 8 underlying26 hi hz0 hz1 hz2 rfl (by omega) (.slice (some ⟨w.heap.size,0,none⟩) 0 0) 0 [] rfl hown0 (some a) l.length c (l.map iv) rfl (hA.below hb0) (by simp) (fI iv l (fun _=>rfl)) (by unfold maxLen;omega) (by omega) (by simp) ?_;intro v1 w1 hown1 hg1;simp only[MZ,Ml]at hown1;obtain⟨A1,c1,rfl,-,-⟩:=ak hown1)
  go_ret
  exact⟨A1,c1,rfl,hown1,hb0.grown hg1 (by simp) (fun k hk=>(hown0.lt k hk).1)⟩
theorem kr (A B:Option Addr) (l m:List Int) (c d:Nat) (w:World) (hA:Sl w A (l.map iv)) (hB:Sl w B (m.map iv)) (hl:l.length<=4611686018427387903) (hm:m.length<=4611686018427387903):
  Calls prog 75 #[.slice A l.length c,.slice B m.length d] w fun r w'=>r= .returned (.bool (decide (l=m)))/\Dr w w':=by
 have mk1:=()
 exact uJ hl hm
theorem CE (A B:Option Addr) (l m:List Int) (c d:Nat) (w:World) (hA:Sl w A (l.map iv)) (hB:Sl w B (m.map iv)) (hl:l.length<=4611686018427387903) (hm:m.length<=4611686018427387903):
  Calls prog 123 #[.slice A l.length c,.slice B m.length d] w fun r w'=>r= .returned (.bool (decide (l=m)))/\Dr w w':=by
 have mk2:=()
 exact uJ hl hm
theorem rZ:(prog.info? 3).map (fun i=>(i.zero,i.size,i.bytes))=some (some (.int .i64 0),1,8):=by kernel_rfl
theorem sJ (A:Option Addr) (l:List Int) (c:Nat) (w:World) (hA:Sl w A (l.map iv)) (hl:l.length<=1000000):
  Calls prog 128 #[.slice A l.length c] w (jc 3 (l.map iv) l.length w):=by
 obtain⟨i0,hi,hz0,hz1,hz2⟩:=info_parts rZ
 have hn:(binOp .eql 27 (.slice A l.length c) (.slice none 0 0)).run prog w= .ok (.bool A.isNone) w:=Nw w _ _ A l.length c _ _ underlying27
 cases A with
 |none=>
  have hnil:=BX hA
  subst hnil
  have hn2:∀n,(binOp .eql 27 (.slice none n c) (.slice none 0 0)).run prog w= .ok (.bool true) w:=fun n=>Nw w _ _ none n c _ _ underlying27
  clear hn
  go_enter func128,ntmps128
  go_wp2
  go_ret
  exact⟨none,0,rfl,L6 _ _ _ _,Lg _ _⟩
 |some a=>
  have hb0:Below w.heap.size w (w.alloc (.cells #[] 3)):=(Lg _ _).alloc (Lf _) _
  have hown0:(w.alloc (.cells #[] 3)).ownsRow w.heap.size 3 1 (.slice (some ⟨w.heap.size,0,none⟩) 0 0) 0 []:=Nc w #[] 0 (Lf _) (LC _) rfl
  go_enter func128,ntmps128
  go_wp2_with (at_builtin;refine ag _ rfl (.tmp 5) (.tmp 6) _ rfl w.heap.size 3 i0 _ 1 8 underlying27 hi hz0 hz1 hz2 rfl (by omega) (.slice (some ⟨w.heap.size,0,none⟩) 0 0) 0 [] rfl hown0 (some a) l.length c (l.map iv) rfl (hA.below hb0) (by simp) (fI iv l (fun _=>rfl)) (by unfold maxLen;omega) (by omega) (by simp) ?_;intro v1 w1 hown1 hg1;simp only[MZ,Ml]at hown1;obtain⟨A1,c1,rfl,-,-⟩:=ak hown1)
  go_ret
  exact⟨A1,c1,rfl,hown1,hb0.grown hg1 (by simp) (fun k hk=>(hown0.lt k hk).1)⟩
theorem oo (A B:Option Addr) (l m:List Int) (c d:Nat) (w:World) (hA:Sl w A (l.map iv)) (hB:Sl w B (m.map iv)) (hl:l.length<=4611686018427387903) (hm:m.length<=4611686018427387903):
  Calls prog 76 #[.slice A l.length c,.slice B m.length d] w fun r w'=>r= .returned (.bool (decide (l=m)))/\Dr w w':=by
 have mk3:=()
 exact uJ hl hm
theorem Ij (A B:Option Addr) (l m:List Int) (c d:Nat) (w:World) (hA:Sl w A (l.map uv)) (hB:Sl w B (m.map uv)) (hl:l.length<=4611686018427387903) (hm:m.length<=4611686018427387903):
  Calls prog 146 #[.slice A l.length c,.slice B m.length d] w fun r w'=>r= .returned (.bool (decide (l=m)))/\Dr w w':=by
 have mk4:=()
 exact uJ hl hm
theorem GI:(prog.info? 22).map (fun i=>(i.zero,i.size,i.bytes))=some (some (.int .u64 0),1,8):=by kernel_rfl
theorem AV (A:Option Addr) (l:List Int) (c:Nat) (w:World) (hA:Sl w A (l.map uv)) (hl:l.length<=1000000):
  Calls prog 126 #[.slice A l.length c] w (jc 22 (l.map uv) l.length w):=by
 obtain⟨i0,hi,hz0,hz1,hz2⟩:=info_parts GI
 have hn:(binOp .eql 25 (.slice A l.length c) (.slice none 0 0)).run prog w= .ok (.bool A.isNone) w:=Nw w _ _ A l.length c _ _ underlying25
 cases A with
 |none=>
  have hnil:=BX hA
  subst hnil
  have hn2:∀n,(binOp .eql 25 (.slice none n c) (.slice none 0 0)).run prog w= .ok (.bool true) w:=fun n=>Nw w _ _ none n c _ _ underlying25
  clear hn
  go_enter func126,ntmps126
  go_wp2
  go_ret
  exact⟨none,0,rfl,L6 _ _ _ _,Lg _ _⟩
 |some a=>
  have hb0:Below w.heap.size w (w.alloc (.cells #[] 22)):=(Lg _ _).alloc (Lf _) _
  have hown0:(w.alloc (.cells #[] 22)).ownsRow w.heap.size 22 1 (.slice (some ⟨w.heap.size,0,none⟩) 0 0) 0 []:=Nc w #[] 0 (Lf _) (LC _) rfl
  go_enter func126,ntmps126
  go_wp2_with (at_builtin;refine ag _ rfl (.tmp 5) (.tmp 6) _ rfl w.heap.size 22 i0 _ 1 8 underlying25 hi hz0 hz1 hz2 rfl (by omega) (.slice (some ⟨w.heap.size,0,none⟩) 0 0) 0 [] rfl hown0 (some a) l.length c (l.map uv) rfl (hA.below hb0) (by simp) (fI uv l (fun _=>rfl)) (by unfold maxLen;omega) (by omega) (by simp) ?_;intro v1 w1 hown1 hg1;simp only[MZ,Ml]at hown1;obtain⟨A1,c1,rfl,-,-⟩:=ak hown1)
  go_ret
  exact⟨A1,c1,rfl,hown1,hb0.grown hg1 (by simp) (fun k hk=>(hown0.lt k hk).1)⟩
theorem vT (A B:Option Addr) (l m:List Int) (c d:Nat) (w:World) (hA:Sl w A (l.map uv)) (hB:Sl w B (m.map uv)) (hl:l.length<=4611686018427387903) (hm:m.length<=4611686018427387903):
  Calls prog 74 #[.slice A l.length c,.slice B m.length d] w fun r w'=>r= .returned (.bool (decide (l=m)))/\Dr w w':=by
 have mk5:=()
 exact uJ hl hm
theorem BR (k a b r s:Nat) (hr:r< 2 ^ k) (hs:s< 2 ^ k):(2 ^ k*a+r)&&& (2 ^ k*b+s)=2 ^ k*(a&&& b)+(r&&& s):=by
 apply Nat.eq_of_testBit_eq
 intro i
 have h3:r&&& s< 2 ^ k:=Nat.lt_of_le_of_lt Nat.and_le_left hr
 rw[Nat.testBit_and,Nat.testBit_two_pow_mul_add a hr,Nat.testBit_two_pow_mul_add b hs,Nat.testBit_two_pow_mul_add _ h3]
 by_cases h:i< k
 ·rw[if_pos h,if_pos h,if_pos h,Nat.testBit_and]
 ·rw[if_neg h,if_neg h,if_neg h,Nat.testBit_and]
def pc:Nat->Nat->Nat
 |0,_=>0
 |n+1,x=>x %2+pc n (x/2)
theorem jk:∀(n x:Nat),pc n x<=n
 |0,_=>Lf _
 |n+1,x=>by rw[pc];have:=jk n (x/2);omega
theorem jw:∀(m n x:Nat),pc (m+n) x=pc m x+pc n (x/2 ^ m)
 |0,n,x=>by simp[pc]
 |m+1,n,x=>by
  rw[show m+1+n=(m+n)+1 from by omega,pc,pc,jw m n (x/2),MC,M8,Mk 2]
  omega
def vw (w r:Nat):Nat->Nat
 |0=>0
 |n+1=>2 ^ w*vw w r n+r
def cnts (w:Nat):Nat->Nat->Nat
 |0,_=>0
 |n+1,x=>2 ^ w*cnts w n (x/2 ^ w)+pc w x
theorem kS (k a b r s:Nat) (hr:r< 2 ^ k) (hs:s< 2 ^ k) (x:Nat) (hx:x=2 ^ k*a+r):x&&& (2 ^ k*b+s)=2 ^ k*(a&&& b)+(r&&& s):=hx ▸ BR k a b r s hr hs
theorem Kt (r:Nat):r&&& 3=r %4:=Nat.and_two_pow_sub_one_eq_mod r 2
theorem and1 (r:Nat):r&&& 1=r %2:=Nat.and_two_pow_sub_one_eq_mod r 1
theorem KL (r:Nat):r&&& 15=r %16:=Nat.and_two_pow_sub_one_eq_mod r 4
theorem step1:∀(n x:Nat),(x/2&&& vw 2 1 n)+(x&&& vw 2 1 n)=cnts 2 n x
 |0,x=>by simp[vw,cnts]
 |n+1,x=>by
  have h1:=kS 2 (x/4/2) (vw 2 1 n) (2*(x/4 %2)+x %4/2) 1 (by omega) (by omega) (x/2) (by omega)
  have h2:=kS 2 (x/4) (vw 2 1 n) (x %4) 1 (by omega) (by omega) x (by omega)
  have h3:=step1 n (x/4)
  rw[vw,h1,h2,cnts,show(2:Nat) ^ 2=4 from rfl,<-h3,and1,and1]
  have h4:pc 2 x=x %2+(x/2 %2+0):=by simp[pc]
  rw[h4]
  omega
theorem step2:∀(n x:Nat),(cnts 2 (2*n) x/4&&& vw 4 3 n)+(cnts 2 (2*n) x&&& vw 4 3 n)=cnts 4 n x
 |0,x=>by simp[vw,cnts]
 |n+1,x=>by
  have hc:cnts 2 (2*(n+1)) x=16*cnts 2 (2*n) (x/16)+4*pc 2 (x/4)+pc 2 x:=by
   rw[show 2*(n+1)=2*n+1+1 from by omega,cnts,cnts,MC,show(2:Nat) ^ 2*2 ^ 2=16 from rfl,show(2:Nat) ^ 2=4 from rfl]
   omega
  have b1:=jk 2 (x/4)
  have b2:=jk 2 x
  have hp:pc 4 x=pc 2 x+pc 2 (x/4):=jw 2 2 x
  have h3:=step2 n (x/16)
  generalize cnts 2 (2*n) (x/16)=q at*
  generalize pc 2 (x/4)=p1 at*
  generalize pc 2 x=p0 at*
  generalize cnts 2 (2*(n+1)) x=y at*
  have h1:=kS 4 (q/4) (vw 4 3 n) (4*(q %4)+p1) 3 (by omega) (by omega) (y/4) (by omega)
  have h2:=kS 4 q (vw 4 3 n) (4*p1+p0) 3 (by omega) (by omega) y (by omega)
  have e1:(4*(q %4)+p1) %4=p1:=by omega
  have e2:(4*p1+p0) %4=p0:=by omega
  rw[vw,h1,h2,cnts,hp,Kt,Kt,e1,e2,show(2:Nat) ^ 4=16 from rfl,<-h3]
  omega
theorem Jy:∀(n x:Nat),((cnts 4 (2*n) x/16+cnts 4 (2*n) x)&&& vw 8 15 n)=cnts 8 n x
 |0,x=>by simp[vw,cnts]
 |n+1,x=>by
  have hc:cnts 4 (2*(n+1)) x=256*cnts 4 (2*n) (x/256)+16*pc 4 (x/16)+pc 4 x:=by
   rw[show 2*(n+1)=2*n+1+1 from by omega,cnts,cnts,MC,show(2:Nat) ^ 4*2 ^ 4=256 from rfl,show(2:Nat) ^ 4=16 from rfl]
   omega
  have b1:=jk 4 (x/16)
  have b2:=jk 4 x
  have hp:pc 8 x=pc 4 x+pc 4 (x/16):=jw 4 4 x
  have h3:=Jy n (x/256)
  have b3:cnts 4 (2*n) (x/256) %16<=4:=by
   cases n with
   |zero=>simp[cnts]
   |succ n=>
    rw[show 2*(n+1)=2*n+1+1 from by omega,cnts]
    have:=jk 4 (x/256)
    omega
  generalize cnts 4 (2*n) (x/256)=q at*
  generalize pc 4 (x/16)=p1 at*
  generalize pc 4 x=p0 at*
  generalize cnts 4 (2*(n+1)) x=y at*
  have h1:=kS 8 (q/16+q) (vw 8 15 n) (16*(q %16)+p1+16*p1+p0) 15 (by omega) (by omega) (y/16+y) (by omega)
  rw[vw,h1,cnts,hp,KL,show(2:Nat) ^ 8=256 from rfl,<-h3]
  omega
theorem wM {lo hi m:Nat} (h:lo< m):(lo+m*hi)/m=hi:=by rw[Nat.add_mul_div_left _ _ (by omega),Nat.div_eq_of_lt h,MZ]
theorem K5 (e0 e1 e2 e3 e4 e5 e6 e7:Nat) (b0:e0<=8):((e0)+256*(e1)+65536*(e2)+16777216*(e3)+4294967296*(e4)+1099511627776*(e5)+281474976710656*(e6)+72057594037927936*(e7))/256=(e1)+256*(e2)+65536*(e3)+16777216*(e4)+4294967296*(e5)+1099511627776*(e6)+281474976710656*(e7):=by
 rw[show(e0)+256*(e1)+65536*(e2)+16777216*(e3)+4294967296*(e4)+1099511627776*(e5)+281474976710656*(e6)+72057594037927936*(e7)=e0+256*((e1)+256*(e2)+65536*(e3)+16777216*(e4)+4294967296*(e5)+1099511627776*(e6)+281474976710656*(e7))from by clear b0;omega]
 exact wM (by omega)
theorem K8 (e0 e1 e2 e3 e4 e5 e6 e7:Nat) (h:((e0+e1)+256*(e1+e2))< 65536):((e0+e1)+256*(e1+e2)+65536*(e2+e3)+16777216*(e3+e4)+4294967296*(e4+e5)+1099511627776*(e5+e6)+281474976710656*(e6+e7)+72057594037927936*(e7))/65536=(e2+e3)+256*(e3+e4)+65536*(e4+e5)+16777216*(e5+e6)+4294967296*(e6+e7)+1099511627776*(e7):=by
 rw[show(e0+e1)+256*(e1+e2)+65536*(e2+e3)+16777216*(e3+e4)+4294967296*(e4+e5)+1099511627776*(e5+e6)+281474976710656*(e6+e7)+72057594037927936*(e7)=((e0+e1)+256*(e1+e2))+65536*((e2+e3)+256*(e3+e4)+65536*(e4+e5)+16777216*(e5+e6)+4294967296*(e6+e7)+1099511627776*(e7))from by clear h;omega]
 exact wM h
theorem Lb (e0 e1 e2 e3 e4 e5 e6 e7:Nat) (h:((e0+e1+e2+e3)+256*(e1+e2+e3+e4)+65536*(e2+e3+e4+e5)+16777216*(e3+e4+e5+e6))< 4294967296):((e0+e1+e2+e3)+256*(e1+e2+e3+e4)+65536*(e2+e3+e4+e5)+16777216*(e3+e4+e5+e6)+4294967296*(e4+e5+e6+e7)+1099511627776*(e5+e6+e7)+281474976710656*(e6+e7)+72057594037927936*(e7))/4294967296=(e4+e5+e6+e7)+256*(e5+e6+e7)+65536*(e6+e7)+16777216*(e7):=by
 rw[show(e0+e1+e2+e3)+256*(e1+e2+e3+e4)+65536*(e2+e3+e4+e5)+16777216*(e3+e4+e5+e6)+4294967296*(e4+e5+e6+e7)+1099511627776*(e5+e6+e7)+281474976710656*(e6+e7)+72057594037927936*(e7)=((e0+e1+e2+e3)+256*(e1+e2+e3+e4)+65536*(e2+e3+e4+e5)+16777216*(e3+e4+e5+e6))+4294967296*((e4+e5+e6+e7)+256*(e5+e6+e7)+65536*(e6+e7)+16777216*(e7))from by clear h;omega]
 exact wM h
theorem K9 (e0 e1 e2 e3 e4 e5 e6 e7:Nat):((e0)+256*(e1)+65536*(e2)+16777216*(e3)+4294967296*(e4)+1099511627776*(e5)+281474976710656*(e6)+72057594037927936*(e7))+((e1)+256*(e2)+65536*(e3)+16777216*(e4)+4294967296*(e5)+1099511627776*(e6)+281474976710656*(e7))=(e0+e1)+256*(e1+e2)+65536*(e2+e3)+16777216*(e3+e4)+4294967296*(e4+e5)+1099511627776*(e5+e6)+281474976710656*(e6+e7)+72057594037927936*(e7):=by omega
theorem La (e0 e1 e2 e3 e4 e5 e6 e7:Nat):((e0+e1)+256*(e1+e2)+65536*(e2+e3)+16777216*(e3+e4)+4294967296*(e4+e5)+1099511627776*(e5+e6)+281474976710656*(e6+e7)+72057594037927936*(e7))+((e2+e3)+256*(e3+e4)+65536*(e4+e5)+16777216*(e5+e6)+4294967296*(e6+e7)+1099511627776*(e7))=(e0+e1+e2+e3)+256*(e1+e2+e3+e4)+65536*(e2+e3+e4+e5)+16777216*(e3+e4+e5+e6)+4294967296*(e4+e5+e6+e7)+1099511627776*(e5+e6+e7)+281474976710656*(e6+e7)+72057594037927936*(e7):=by omega
theorem K7 (e0 e1 e2 e3 e4 e5 e6 e7:Nat):((e0+e1+e2+e3)+256*(e1+e2+e3+e4)+65536*(e2+e3+e4+e5)+16777216*(e3+e4+e5+e6)+4294967296*(e4+e5+e6+e7)+1099511627776*(e5+e6+e7)+281474976710656*(e6+e7)+72057594037927936*(e7))+((e4+e5+e6+e7)+256*(e5+e6+e7)+65536*(e6+e7)+16777216*(e7))=(e0+e1+e2+e3+e4+e5+e6+e7)+128*(2*(e1+e2+e3+e4)+512*(e2+e3+e4+e5)+131072*(e3+e4+e5+e6)+33554432*(e4+e5+e6+e7)+8589934592*(e5+e6+e7)+2199023255552*(e6+e7)+562949953421312*(e7)+2*(e5+e6+e7)+512*(e6+e7)+131072*(e7)):=by omega
theorem JX (s e0 e1 e2 e3 e4 e5 e6 e7:Nat) (b0:e0<=8) (b1:e1<=8) (b2:e2<=8) (b3:e3<=8) (b4:e4<=8) (b5:e5<=8) (b6:e6<=8) (b7:e7<=8) (hs:s=(e0)+256*(e1)+65536*(e2)+16777216*(e3)+4294967296*(e4)+1099511627776*(e5)+281474976710656*(e6)+72057594037927936*(e7)):((s+s/256)+(s+s/256)/65536+((s+s/256)+(s+s/256)/65536)/4294967296) %128=e0+e1+e2+e3+e4+e5+e6+e7:=by
 have h2:((e0+e1)+256*(e1+e2))< 65536:=by clear hs;omega
 have h3:((e0+e1+e2+e3)+256*(e1+e2+e3+e4)+65536*(e2+e3+e4+e5)+16777216*(e3+e4+e5+e6))< 4294967296:=by clear hs h2;omega
 have h4:e0+e1+e2+e3+e4+e5+e6+e7< 128:=by clear hs h2 h3;omega
 have h5:s+s/256=(e0+e1)+256*(e1+e2)+65536*(e2+e3)+16777216*(e3+e4)+4294967296*(e4+e5)+1099511627776*(e5+e6)+281474976710656*(e6+e7)+72057594037927936*(e7):=by rw[hs,K5 _ _ _ _ _ _ _ _ b0,K9]
 rw[h5,K8 _ _ _ _ _ _ _ _ h2,La,Lb _ _ _ _ _ _ _ _ h3,K7,Nat.add_mul_mod_self_left,Nat.mod_eq_of_lt h4]
theorem KA (x:Nat):cnts 8 8 x=(pc 8 x)+256*(pc 8 (x/256))+65536*(pc 8 (x/65536))+16777216*(pc 8 (x/16777216))+4294967296*(pc 8 (x/4294967296))+1099511627776*(pc 8 (x/1099511627776))+281474976710656*(pc 8 (x/281474976710656))+72057594037927936*(pc 8 (x/72057594037927936)):=by
 simp only[cnts,MC,Nat.reduceMul,Nat.reducePow]
 omega
theorem KY (x:Nat):pc 64 x=pc 8 x+pc 8 (x/256)+pc 8 (x/65536)+pc 8 (x/16777216)+pc 8 (x/4294967296)+pc 8 (x/1099511627776)+pc 8 (x/281474976710656)+pc 8 (x/72057594037927936):=by
 rw[show 64=8+56 from rfl,jw,show 56=8+48 from rfl,jw,show 48=8+40 from rfl,jw,show 40=8+32 from rfl,jw,show 32=8+24 from rfl,jw,show 24=8+16 from rfl,jw,show 16=8+8 from rfl,jw]
 simp only[MC,Nat.reduceMul,Nat.reducePow]
 omega
theorem Ky (x:Nat):((cnts 8 8 x+cnts 8 8 x/256)+(cnts 8 8 x+cnts 8 8 x/256)/65536+((cnts 8 8 x+cnts 8 8 x/256)+(cnts 8 8 x+cnts 8 8 x/256)/65536)/4294967296) %128=pc 64 x:=by
 rw[JX (cnts 8 8 x) _ _ _ _ _ _ _ _ (jk 8 _) (jk 8 _) (jk 8 _) (jk 8 _) (jk 8 _) (jk 8 _) (jk 8 _) (jk 8 _) (KA x),KY]
theorem IY (x:Nat):∀s1 s2 s3 a b:Nat,s1=(x/2&&& 6148914691236517205)+(x&&& 6148914691236517205)->s2=(s1/4&&& 3689348814741910323)+(s1&&& 3689348814741910323)->s3=(s2/16+s2)&&& 1085102592571150095->a=s3+s3/256->b=a+a/65536->(b+b/4294967296) %128=pc 64 x:=by
 intro s1 s2 s3 a b h1 h2 h3 h4 h5
 have e1:vw 2 1 32=6148914691236517205:=by decide
 have e2:vw 4 3 16=3689348814741910323:=by decide
 have e3:vw 8 15 8=1085102592571150095:=by decide
 rw[<-e1,step1 32 x]at h1
 rw[<-e2,h1,step2 16 x]at h2
 rw[<-e3,h2,Jy 8 x]at h3
 rw[h5,h4,h3]
 exact Ky x
theorem CQ:∀n,pc n 0=0
 |0=>rfl
 |n+1=>by rw[pc,Nat.zero_div,CQ n]
theorem Hz:∀(m n x:Nat),m<=n->pc n (x %2 ^ m)=pc m x
 |0,n,x,_=>by rw[Nat.pow_zero,Nat.mod_one,CQ,pc]
 |m+1,n+1,x,h=>by
  rw[pc,pc,<-Hz m n (x/2) (by omega)]
  have h1:x %2 ^ (m+1) %2=x %2:=by rw[M8,Mk];exact Nat.mod_mul_right_mod x 2 (2 ^ m)
  have h2:x %2 ^ (m+1)/2=x/2 %2 ^ m:=by rw[M8,Mk];exact Nat.mod_mul_right_div_self x 2 (2 ^ m)
  rw[h1,h2]
theorem G9:∀(l n x:Nat),pc (l+n) (2 ^ l*x)=pc n x
 |0,n,x=>by simp
 |l+1,n,x=>by
  rw[show l+1+n=(l+n)+1 from by omega,pc,M8,show 2 ^ l*2*x=2*(2 ^ l*x)from by rw[Mk (2 ^ l) 2,MB],Nat.mul_mod_right,Nat.mul_div_cancel_left _ (by omega),G9 l n x,MZ]
def fu (ws:List Nat) (s:Nat):Nat:=ws.getD (s/64) 0/2 ^ (s %64) %2
def aX (ws:List Nat):Nat->Nat->Nat
 |_,0=>0
 |s,n+1=>fu ws s+aX ws (s+1) n
theorem sQ (ws:List Nat):∀(m n s:Nat),aX ws s (m+n)=aX ws s m+aX ws (s+m) n
 |0,n,s=>by simp[aX]
 |m+1,n,s=>by rw[show m+1+n=(m+n)+1 from by omega,aX,aX,sQ ws m n (s+1),show s+1+m=s+(m+1)from by omega];omega
theorem vF (ws:List Nat) (k:Nat):∀(m l:Nat),l+m<=64->aX ws (64*k+l) m=pc m (ws.getD k 0/2 ^ l)
 |0,l,_=>rfl
 |m+1,l,h=>by
  rw[aX,pc,show 64*k+l+1=64*k+(l+1)from by omega,vF ws k m (l+1) (by omega),MC,<-M8]
  unfold fu
  rw[show(64*k+l)/64=k from by omega,show(64*k+l) %64=l from by omega]
def uu (x l m:Nat):Nat:=x %2 ^ m/2 ^ l*2 ^ l
theorem J9 (x l m:Nat) (h:l<=m) (hm:m<=64):pc 64 (uu x l m)=pc (m-l) (x/2 ^ l):=by
 have h1:pc 64 (uu x l m)=pc (64-l) (x %2 ^ m/2 ^ l):=by
  unfold uu
  rw[Mk]
  have:=G9 l (64-l) (x %2 ^ m/2 ^ l)
  rwa [show l+(64-l)=64 from by omega]at this
 rw[h1,show 2 ^ m=2 ^ l*2 ^ (m-l)from by rw[<-MQ,show l+(m-l)=m from by omega],Nat.mod_mul_right_div_self,Hz _ _ _ (by omega)]
theorem Bb (ws:List Nat) (s:Nat):fu ws s<=1:=by unfold fu;omega
theorem eT (ws:List Nat):∀(n s:Nat),aX ws s n<=n
 |0,_=>Lf _
 |n+1,s=>by rw[aX];have:=Bb ws s;have:=eT ws n (s+1);omega
def places (ws:List Nat) (s n:Nat):List Nat:=(List.range' s n).filter (fun i=>fu ws i==1)
theorem dQ (ws:List Nat):∀(n s:Nat),(places ws s n).length=aX ws s n
 |0,s=>rfl
 |n+1,s=>by
  have h:=dQ ws n (s+1)
  unfold places at*
  rw[List.range'_succ,List.filter_cons,aX]
  have:=Bb ws s
  by_cases hb:fu ws s=1
  ·rw[if_pos (by simp[hb]),List.length_cons,h,hb];omega
  ·rw[if_neg (by simp[hb]),h];omega
theorem nH (n:Nat) (h:n< 18446744073709551616):IntKind.u64.wrap (n:Int)=(n:Int):=by rw[IntKind.wrap_u64];omega
theorem Jj (x:Nat) (hx:x< 18446744073709551616):∀S1 S2 S3 Sa Sb Sc:Int,
  S1=IntKind.u64.wrap (bits .and .u64 ((x:Int)/2) 6148914691236517205+bits .and .u64 (x:Int) 6148914691236517205)->
  S2=IntKind.u64.wrap (bits .and .u64 (S1/4) 3689348814741910323+bits .and .u64 S1 3689348814741910323)->
  S3=bits .and .u64 (IntKind.u64.wrap (S2/16+S2)) 1085102592571150095->
  Sa=IntKind.u64.wrap (S3+S3/256)->Sb=IntKind.u64.wrap (Sa+Sa/65536)->Sc=IntKind.u64.wrap (Sb+Sb/4294967296)->
  bits .and .i64 (wrap64 Sc) 127=((pc 64 x:Nat):Int):=by
 intro S1 S2 S3 Sa Sb Sc h1 h2 h3 h4 h5 h6
 have ha:=fun(a b:Nat) (p:a< 18446744073709551616) (q:b< 18446744073709551616)=>bits_and_u64_nat a b p q
 have g1:=ha (x/2) 6148914691236517205 (by omega) (by omega)
 have g2:=ha x 6148914691236517205 hx (by omega)
 have l1:x/2&&& 6148914691236517205<=6148914691236517205:=Nat.and_le_right
 have l2:x&&& 6148914691236517205<=6148914691236517205:=Nat.and_le_right
 have e1:S1=(((x/2&&& 6148914691236517205)+(x&&& 6148914691236517205):Nat):Int):=by
  rw[h1,show(x:Int)/2=((x/2:Nat):Int)from rfl,show(6148914691236517205:Int)=((6148914691236517205:Nat):Int)from rfl,g1,g2,<-Int.natCast_add,nH _ (by omega)]
 obtain⟨s1,hs1⟩:∃s,(x/2&&& 6148914691236517205)+(x&&& 6148914691236517205)=s:=⟨_,rfl⟩
 have b1:s1<=12297829382473034410:=by omega
 rw[hs1]at e1
 have g3:=ha (s1/4) 3689348814741910323 (by omega) (by omega)
 have g4:=ha s1 3689348814741910323 (by omega) (by omega)
 have l3:s1/4&&& 3689348814741910323<=3689348814741910323:=Nat.and_le_right
 have l4:s1&&& 3689348814741910323<=3689348814741910323:=Nat.and_le_right
 have e2:S2=(((s1/4&&& 3689348814741910323)+(s1&&& 3689348814741910323):Nat):Int):=by
  rw[h2,e1,show(s1:Int)/4=((s1/4:Nat):Int)from rfl,show(3689348814741910323:Int)=((3689348814741910323:Nat):Int)from rfl,g3,g4,<-Int.natCast_add,nH _ (by omega)]
 obtain⟨s2,hs2⟩:∃s,(s1/4&&& 3689348814741910323)+(s1&&& 3689348814741910323)=s:=⟨_,rfl⟩
 have b2:s2<=7378697629483820646:=by omega
 rw[hs2]at e2
 have g5:=ha (s2/16+s2) 1085102592571150095 (by omega) (by omega)
 have l5:(s2/16+s2)&&& 1085102592571150095<=1085102592571150095:=Nat.and_le_right
 have e3:S3=(((s2/16+s2)&&& 1085102592571150095:Nat):Int):=by
  rw[h3,e2,show(s2:Int)/16+(s2:Int)=((s2/16+s2:Nat):Int)from rfl,nH _ (by omega),show(1085102592571150095:Int)=((1085102592571150095:Nat):Int)from rfl,g5]
 obtain⟨s3,hs3⟩:∃s,(s2/16+s2)&&& 1085102592571150095=s:=⟨_,rfl⟩
 rw[hs3]at e3 l5
 have e4:Sa=((s3+s3/256:Nat):Int):=by rw[h4,e3,show(s3:Int)+(s3:Int)/256=((s3+s3/256:Nat):Int)from rfl,nH _ (by omega)]
 obtain⟨a,hsa⟩:∃s,s3+s3/256=s:=⟨_,rfl⟩
 rw[hsa]at e4
 have e5:Sb=((a+a/65536:Nat):Int):=by rw[h5,e4,show(a:Int)+(a:Int)/65536=((a+a/65536:Nat):Int)from rfl,nH _ (by omega)]
 obtain⟨b,hsb⟩:∃s,a+a/65536=s:=⟨_,rfl⟩
 rw[hsb]at e5
 have b6:b+b/4294967296< 9223372036854775808:=by omega
 have e6:Sc=((b+b/4294967296:Nat):Int):=by rw[h6,e5,show(b:Int)+(b:Int)/4294967296=((b+b/4294967296:Nat):Int)from rfl,nH _ (by omega)]
 have hf:=IY x s1 s2 s3 a b hs1.symm hs2.symm hs3.symm hsa.symm hsb.symm
 rw[i64_and127,e6,IntWalk.wrap64_in _ (by omega),<-hf]
 rfl
theorem zZ (x:Nat) (w:World) (hx:x< 18446744073709551616):Calls prog 225 #[.int .u64 (x:Nat)] w fun r w'=>r= .returned (.int .i64 (pc 64 x:Nat))/\w'=w:=by
 go_enter func225,ntmps225
 go_upto_region 2 with fail
 obtain⟨S1,hS1⟩:∃S,IntKind.u64.wrap (bits .and .u64 ((x:Int)/2) 6148914691236517205+bits .and .u64 (x:Int) 6148914691236517205)=S:=⟨_,rfl⟩
 rw[hS1]
 have HS1:=Lc hS1
 clear hS1
 go_upto_region 3 with fail
 obtain⟨S2,hS2⟩:∃S,IntKind.u64.wrap (bits .and .u64 (S1/4) 3689348814741910323+bits .and .u64 S1 3689348814741910323)=S:=⟨_,rfl⟩
 rw[hS2]
 have HS2:=Lc hS2
 clear hS2
 go_upto_region 4 with fail
 obtain⟨S3,hS3⟩:∃S,bits .and .u64 (IntKind.u64.wrap (S2/16+S2)) 1085102592571150095=S:=⟨_,rfl⟩
 rw[hS3]
 have HS3:=Lc hS3
 clear hS3
 go_upto_region 5 with fail
 obtain⟨Sa,hSa⟩:∃S,IntKind.u64.wrap (S3+S3/256)=S:=⟨_,rfl⟩
 rw[hSa]
 have HSa:=Lc hSa
 clear hSa
 go_upto_region 6 with fail
 obtain⟨Sb,hSb⟩:∃S,IntKind.u64.wrap (Sa+Sa/65536)=S:=⟨_,rfl⟩
 rw[hSb]
 have HSb:=Lc hSb
 clear hSb
 go_upto_region 7 with fail
 obtain⟨Sc,hSc⟩:∃S,IntKind.u64.wrap (Sb+Sb/4294967296)=S:=⟨_,rfl⟩
 rw[hSc]
 have HSc:=Lc hSc
 clear hSc
 go_wp2_with fail
 go_ret
 have he:=Jj x hx S1 S2 S3 Sa Sb Sc HS1.out.symm HS2.out.symm HS3.out.symm HSa.out.symm HSb.out.symm HSc.out.symm
 exact⟨congrArg (fun z=>Ending.returned (Value.int .i64 z)) he,rfl⟩
def uw (n:Nat):Value:= .int .u64 (n:Int)
def fU (ws:List Nat) (n:Nat):Int:=if ws.length=(n+63)/64/\(n %64=0∨ws.getD (ws.length-1) 0/2 ^ (n %64)=0)then 0 else 8
theorem nU (A:Option Addr) (ws:List Nat) (c n:Nat) (w:World) (hA:Sl w A (ws.map uw)) (hn:n<=65536) (hl:ws.length<=1000000):
  Calls prog 211 #[.slice A ws.length c,.int .i64 (n:Nat)] w fun r w'=>r= .returned (.int .i64 (fU ws n))/\w'=w:=by
 have i0:¬(n:Int)< 0:=by omega
 have i1:¬(65536:Int)< (n:Int):=by omega
 have hw1:IntKind.i64.wrap ((n:Int)+64)=(n:Int)+64:=IntWalk.i64_in _ (by omega)
 have hw2:IntKind.i64.wrap ((n:Int)+64-1)=(n:Int)+63:=by rw[IntWalk.i64_in _ (by omega)];omega
 by_cases h1:ws.length=(n+63)/64
 case neg=>
  have hE:fU ws n=8:=by unfold fU;rw[if_neg (fun h=>h1 h.1)]
  have hz:((ws.length:Int)!=((n:Int)+63)/64)=true:=by simp;omega
  have hz2:¬(ws.length:Int)=((n:Int)+63)/64:=by omega
  rw[hE]
  clear hE h1
  go_enter func211,ntmps211
  go_wp2_with fail
  go_ret
  exact⟨rfl,rfl⟩
 case pos=>
 have hz:((ws.length:Int)!=((n:Int)+63)/64)=false:=by simp;omega
 have hz2:(ws.length:Int)=((n:Int)+63)/64:=by omega
 by_cases h2:n %64=0
 ·have hE:fU ws n=0:=by unfold fU;rw[if_pos ⟨h1,.inl h2⟩]
  have i2:¬(0:Int)< (n:Int) %64:=by omega
  rw[hE]
  clear hE h1 h2 hz2
  go_enter func211,ntmps211
  go_wp2_with fail
  go_ret
  exact⟨rfl,rfl⟩
 ·have i2:(0:Int)< (n:Int) %64:=by omega
  have hp:0< ws.length:=by omega
  obtain⟨b,off,rfl,hb,c1⟩:=hA.one (ws.length-1) (by omega)
  obtain⟨x,hx⟩:∃x,ws[ws.length-1]'(by omega)=x:=⟨_,rfl⟩
  have hg:ws.getD (ws.length-1) 0=x:=by rw[List.getD_eq_getElem?_getD,Lu (by omega),hx];rfl
  rw[hx]at c1
  have c2:w.cell? ⟨b,off+(ws.length-1),none⟩=some (.int .u64 (x:Nat)):=c1
  have hw3:IntKind.i64.wrap ((ws.length:Int)-1)=(ws.length:Int)-1:=IntWalk.i64_in _ (by omega)
  have i3:(0:Int)<=(ws.length:Int)-1:=by omega
  have i4:(ws.length:Int)-1< (ws.length:Int):=by omega
  have ht:((ws.length:Int)-1).toNat=ws.length-1:=by omega
  obtain⟨m,hm⟩:∃m:Nat,n %64=m:=⟨_,rfl⟩
  have hmi:(n:Int) %64=(m:Int):=by omega
  have i5:(0:Int)<=(m:Int):=by omega
  have i6:(m:Int)<=64:=by omega
  have hq:(x:Int)/2 ^ m=((x/2 ^ m:Nat):Int):=by rw[Nl,Int.natCast_pow];rfl
  by_cases h3:x/2 ^ m=0
  ·have hE:fU ws n=0:=by unfold fU;rw[if_pos ⟨h1,.inr (by rw[hg,hm];exact h3)⟩]
   have hr:((x:Int)/2 ^ m !=0)=false:=by rw[hq,h3];rfl
   rw[hE]
   rw[hmi]at i2
   clear hE h1 h2 h3 hq hg c1 hm hA hx hz2
   go_enter func211,ntmps211
   go_wp2_with fail
   go_ret
   exact⟨rfl,rfl⟩
  ·have hE:fU ws n=8:=by unfold fU;rw[if_neg (fun h=>h.2.elim h2 (fun h4=>h3 (by rw[hg,hm]at h4;exact h4)))]
   have hr:((x:Int)/2 ^ m !=0)=true:=by rw[hq];simp only[bne_iff_ne,ne_eq];omega
   rw[hE]
   rw[hmi]at i2
   clear hE h1 h2 h3 hq hg c1 hm hA hx hz2
   go_enter func211,ntmps211
   go_wp2_with fail
   go_ret
   exact⟨rfl,rfl⟩
theorem wH (A:Option Addr) (ws:List Nat) (c n:Nat) (is:Bool) (w:World) (hA:Sl w A (ws.map uw)) (hn:n<=65536) (hl:ws.length<=1000000):
  Calls prog 223 #[.slice A ws.length c,.int .i64 (n:Nat),.bool is] w fun r w'=>r= .returned (.int .i64 (if fU ws n=0 then(if is=true then 0 else 2)else fU ws n))/\w'=w:=by
 have hck:=nU A ws c n w hA hn hl
 obtain⟨E,hE⟩:∃E,fU ws n=E:=⟨_,rfl⟩
 rw[hE]at hck
 rw[hE]
 have HCK:=Lc hck
 clear hck hE hA
 by_cases h0:E=0
 ·subst h0
  rw[if_pos rfl]
  cases is with
  |true=>
   rw[if_pos rfl]
   go_enter func223,ntmps223
   go_wp2_with fail
   refine HCK.out.mono ?_
   rintro e w1 ⟨rfl,rfl⟩
   go_wp2_with fail
   go_ret
   exact⟨rfl,rfl⟩
  |false=>
   rw[if_neg (by simp)]
   go_enter func223,ntmps223
   go_wp2_with fail
   refine HCK.out.mono ?_
   rintro e w1 ⟨rfl,rfl⟩
   go_wp2_with fail
   go_ret
   exact⟨rfl,rfl⟩
 ·rw[if_neg h0]
  have h1:(E !=0)=true:=by simpa using h0
  go_enter func223,ntmps223
  go_wp2_with fail
  refine HCK.out.mono ?_
  rintro e w1 ⟨rfl,rfl⟩
  go_wp2_with fail
  go_ret
  exact⟨rfl,rfl⟩
theorem DK (x m:Nat) (w:World) (hm:m< 64):Calls prog 162 #[.int .u64 (x:Nat),.int .i64 (m:Nat)] w fun r w'=>r= .returned (.bool (decide (x/2 ^ m %2=1)))/\w'=w:=by
 have i5:(0:Int)<=(m:Int):=by omega
 have i6:(m:Int)<=64:=by omega
 have hq:(x:Int)/2 ^ m %2=((x/2 ^ m %2:Nat):Int):=by rw[Int.natCast_emod,Nl,Int.natCast_pow];rfl
 have hr:decide ((x:Int)/2 ^ m %2=1)=decide (x/2 ^ m %2=1):=by rw[hq];exact decide_eq_decide.2 (by omega)
 have HR:=Lc hr
 clear hq hr
 go_enter func162,ntmps162
 go_wp2_with fail
 go_ret
 refine⟨?_,rfl⟩
 rw[<-HR.out]
 rfl
end Go.Proofs.YtpbmbjjfdpkhbaaGreat
