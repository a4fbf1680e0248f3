/- Part of the proof of this claim: walks and laws that it leans on; no condition. -/
import Derived.Test.YtgkhfpfjokagfaaGreatDoorXG2
import Derived.Lib.SlParts
import Derived.Lib.SlFresh
import Derived.Lib.Strings
import Derived.Laws.MakeOwn
import Derived.Lib.Builder
import Derived.Lib.UnsafeStr
import GoSem.Instr.MapUpdate
import Derived.Test.YtgkhfpfjokagfaaGreatDoorProg
set_option linter.unusedSimpArgs false
set_option linter.unusedVariables false
namespace Go.Proofs.YtgkhfpfjokagfaaGreatDoor
theorem pb(b off j:Nat):(⟨b,off,none⟩:Addr).add j=⟨b,off+j,none⟩:=by unfold Addr.add;split<;>simp_all
def Gd(P:Program)(T n:Nat):Prop:=∃e,(∀w,(underlying T).run P w= .ok (.array n e) w)∧∀w,(sizeOf e).run P w= .ok 1 w
theorem VSR.ones{pr:Nat→Nat}{w:World}{b:Nat}:∀{cs:List SV} {off:Nat},VSR pr w b off 1 (cs.map fun c=>[c])→VSC pr w b off cs
 |[],off,_=>by simp[VSC]
 |c::cs,off,h=>by
  simp only[List.map_cons,VSR,VSC]at h⊢;exact⟨h.2.1.1,VSR.ones h.2.2⟩
section
variable{P:Program}{r:Option Nat}{N:Nat}{D:List Nat}{B:bG}{all:Array Oper}{K:List (Nat×Ct)→St→Prop}
variable{i:Nat}{ops:List Oper}{tr:List (Nat×Ct)}{E:List (Nat×bB)}{L:List (Nat×LO)}{n:Nat}{g:Bool}{gn:List (Nat×bB)}
variable{d ty:Nat}{pos:String}{aft:Array Edge}{gd:Option (Nat×Bool)}
theorem qW{T m:Nat}(hF:Gd P T m){x:Operand}{gx:Bool}{o:Nat}
 (ho:all[i]?=some ⟨some d,.slice T x none none none,ty,pos,aft,gd⟩:=by rfl)(hg:GuardOk (en E) all gd g gn:=by first|exact gN|exact gS rfl rfl)
 (hx:aP (en E) x=some (gx,.ptr o 0):=by rfl)(hgx:g=true→gx=true:=by first|exact fun _=>rfl|exact id)
 (h:Reg P r N D B all (i+1) ops ((i,bK gn [x] [(gx,.ptr o 0)] (some d) (g,.sub o 0 m m) [])::tr) (st ((d,(g,.sub o 0 m m))::E) L n) K):
 Reg P r N D B all i (⟨some d,.slice T x none none none,ty,pos,aft,gd⟩::ops) tr (st E L n) K:=
 Reg.one rfl (fun h=>by
  rw[aE h hgx];refine bm (x:=x) rfl (by simp) fun md n0 cx H ρ w hok hrd v1=>?_;obtain⟨e,hu,hz⟩:=hF;simp only[V]at v1;obtain⟨hA,b,hbk,he⟩:=v1;refine⟨.slice (some ⟨b,0,none⟩) m m,?_,?_⟩;have hadd:(⟨b,0,none⟩:Addr).add 0=⟨b,0,none⟩:=rfl;simp[execOp,he,Instr.sliceAt,hu w,Instr.sureAddr,Instr.sliceBounds,hz w,hadd];simp only[V];exact⟨hA,b,hbk,rfl⟩) ho hg hx (by simp) h
end
end Go.Proofs.YtgkhfpfjokagfaaGreatDoor
namespace Go.Proofs.YtgkhfpfjokagfaaGreatDoor
theorem VSC.rows{pr:Nat→Nat}{w:World}{b:Nat}:∀{cs:List SV} {off:Nat},VSC pr w b off cs→VSR pr w b off 1 (cs.map fun c=>[c])
 |[],off,_=>by simp[VSR]
 |c::cs,off,h=>by
  simp only[List.map_cons,VSR,VSC]at h⊢;exact⟨rfl,⟨h.1,trivial⟩,VSC.rows h.2⟩
theorem xg{P:Program}(w:World)(d:Nat)(t e:TypeId)(a:Option Addr)(l c:Nat)(h:P.underlying t=some (.slice e)):(Op.equalIn (d+1) t (.slice a l c) (.slice none 0 0)).run P w= .ok a.isNone w:=by
 cases a<;>simp[Op.equalIn,run_underlying h]
theorem gD{P:Program}(w:World)(t e:TypeId)(a:Option Addr)(l c:Nat)(h:P.underlying t=some (.slice e)):(Op.equal t (.slice a l c) (.slice none 0 0)).run P w= .ok a.isNone w:=xg w 9999 t e a l c h
section
variable{P:Program}{r:Option Nat}{N:Nat}{D:List Nat}{B:bG}{Ψ:Exit→Act→World→Prop}{todo:List Item}
variable{E:List (Nat×bB)}{L:List (Nat×LO)}{n:Nat}
end
section
variable{P:Program}{r:Option Nat}{N:Nat}{D:List Nat}{B:bG}{all:Array Oper}{K:List (Nat×Ct)→St→Prop}
variable{i:Nat}{ops:List Oper}{tr:List (Nat×Ct)}{E:List (Nat×bB)}{L:List (Nat×LO)}{n:Nat}{g:Bool}{gn:List (Nat×bB)}
variable{d ty:Nat}{pos:String}{aft:Array Edge}{gd:Option (Nat×Bool)}
theorem Hc{op:BinOp}(v:Bool)(hop:(op= .eql∧v=true)∨(op= .neq∧v=false):=by first|exact .inl ⟨rfl,rfl⟩|exact .inr ⟨rfl,rfl⟩){t e yt:Nat}(hT:P.underlying t=some (.slice e)){x:Operand}{gx:Bool}
 (ho:all[i]?=some ⟨some d,.binOp op t x (.const (.slice none 0 0)) yt,ty,pos,aft,gd⟩:=by rfl)(hg:GuardOk (en E) all gd g gn:=by first|exact gN|exact gS rfl rfl)
 (hx:aP (en E) x=some (gx,.v (.slice none 0 0)):=by rfl)(hgx:g=true→gx=true:=by first|exact fun _=>rfl|exact id)
 (h:Reg P r N D B all (i+1) ops ((i,bK gn [x,.const (.slice none 0 0)] [(gx,.v (.slice none 0 0)),(true,.v (.slice none 0 0))] (some d) (g,.b v) [])::tr) (st ((d,(g,.b v))::E) L n) K):
 Reg P r N D B all i (⟨some d,.binOp op t x (.const (.slice none 0 0)) yt,ty,pos,aft,gd⟩::ops) tr (st E L n) K:=
 Reg.two rfl (fun h=>by
  rw[aE h hgx];refine bj (x:=x) (y:= .const (.slice none 0 0)) rfl (by simp) fun md n0 cx H ρ w hok hrd v1 v2=>?_;have v1':=v1.val;have v2':=v2.val;refine⟨.bool v,?_,aZ⟩;rcases hop with⟨rfl,rfl⟩|⟨rfl,rfl⟩<;>
   simp[execOp,v1',v2',eqGuard,binOp,gD w t e _ _ _ hT,Sem.run_bind]) ho hg hx rfl (by simp) h
theorem k8{op:BinOp}(v:Bool)(hop:(op= .eql∧v=false)∨(op= .neq∧v=true):=by first|exact .inl ⟨rfl,rfl⟩|exact .inr ⟨rfl,rfl⟩){t e yt:Nat}(hT:P.underlying t=some (.slice e)){x:Operand}{gx:Bool}{sz:Nat}{xs:List (List SV)}(hne:g=true→xs≠[])
 (ho:all[i]?=some ⟨some d,.binOp op t x (.const (.slice none 0 0)) yt,ty,pos,aft,gd⟩:=by rfl)(hg:GuardOk (en E) all gd g gn:=by first|exact gN|exact gS rfl rfl)
 (hx:aP (en E) x=some (gx,.sv (.sl sz xs)):=by rfl)(hgx:g=true→gx=true:=by first|exact fun _=>rfl|exact id)
 (h:Reg P r N D B all (i+1) ops ((i,bK gn [x,.const (.slice none 0 0)] [(gx,.sv (.sl sz xs)),(true,.v (.slice none 0 0))] (some d) (g,.b v) [])::tr) (st ((d,(g,.b v))::E) L n) K):
 Reg P r N D B all i (⟨some d,.binOp op t x (.const (.slice none 0 0)) yt,ty,pos,aft,gd⟩::ops) tr (st E L n) K:=
 Reg.two rfl (fun h=>by
  rw[aE h hgx];refine bj (x:=x) (y:= .const (.slice none 0 0)) rfl (by simp) fun md n0 cx H ρ w hok hrd v1 v2=>?_;have v2':=v2.val;simp only[V,VS]at v1;refine⟨.bool v,?_,aZ⟩;rcases v1 with⟨_,he⟩|⟨b,off,cap,he,_⟩
  exact absurd he (hne h);rcases hop with⟨rfl,rfl⟩|⟨rfl,rfl⟩<;>
   simp[execOp,he,v2',eqGuard,binOp,gD w t e _ _ _ hT,Sem.run_bind]) ho hg hx rfl (by simp) h
end
end Go.Proofs.YtgkhfpfjokagfaaGreatDoor
namespace Go.Proofs.YtgkhfpfjokagfaaGreatDoor
open Go.RowKit
theorem oI:∀l:List UInt8,(aL l).flatten=l.map fun c=>.val (.int .u8 c.toNat)
 |[]=>rfl
 |a::l=>by have:=oI l;simp only[aL,List.map_cons,List.flatten_cons]at this⊢;rw[this];rfl
theorem eN{P:Program}{f:FuncId}{lvs:List LV}{out:LV}(hE:Entr P f)(ha:an 0 lvs=true)
 (h:∀(cx:Cx) (w:World) (vs:List Value),(∀b,0<cx.pr b→b<w.heap.size)→Amb cx.pr w→Vs cx w lvs vs→
  Calls P f vs.toArray w fun e w'=>∃v pr',e= .returned v∧Below w.heap.size w w'∧(∀b,b<w.heap.size→pr' b=cx.pr b)∧(∀b,0<pr' b→b<w'.heap.size)∧V ⟨pr',cx.A,cx.loc,cx.inn⟩ w' out v):PC P f lvs out:=by
 refine⟨hE,ha,rfl,by simp,by simp,fun cx w vs hA hok ham hv=>(h cx w vs hok.lim ham hv).mono ?_⟩;rintro e w' ⟨v,pr',rfl,hb,h1,h2,h3⟩;have hext:Ext cx.pr w pr' w':=fun b off ho=>by
  have hlt:=hok.lim b (by omega);exact⟨by rw[h1 b hlt];exact ho,by simp only[World.cell?,hb.block b hlt]⟩
 refine⟨v,⟨pr',cx.A,cx.loc,cx.inn⟩,rfl,⟨fun o ho=>⟨ho,rfl⟩,fun o=>?_,⟨hb.os,hb.tape,hb.output,hb.size,fun b hlt _=>hb.block b hlt,fun b hlt _=>h1 b hlt,hext⟩,
  ⟨fun o x hx=>by simp at hx,fun o x b hx=>by simp at hx,fun o o' x x' b _ hx=>by simp at hx,h2⟩,fun _ _ _=>rfl⟩,h3⟩
 constructor;intro h;exact .inl h;rintro(h|h);exact h;omega
theorem cL{P:Program}{f:FuncId}{lvs:List LV}{x:Value}(hE:Entr P f)(ha:an 0 lvs=true)
 (h:∀(cx:Cx) (w:World) (vs:List Value),(∀b,0<cx.pr b→b<w.heap.size)→Amb cx.pr w→Vs cx w lvs vs→Calls P f vs.toArray w fun e w'=>e= .returned x∧Below w.heap.size w w'):PC P f lvs (.v x):=by
 refine eN hE ha fun cx w vs hl ham hv=>(h cx w vs hl ham hv).mono ?_;rintro e w' ⟨rfl,hb⟩;exact⟨_,cx.pr,rfl,hb,fun _ _=>rfl,fun b hb'=>Nat.lt_of_lt_of_le (hl b hb') hb.size,aZ⟩
theorem qU{α:Type}{pr:Nat→Nat}{w:World}{b:Nat}(k:α→SV):∀{l:List α} {off:Nat},VSR pr w b off 1 (l.map fun s=>[k s])→∀(j:Nat) (s:α),l[j]?=some s→∃v,w.cell? ⟨b,off+j,none⟩=some v∧VS pr w (k s) v
 |[],off,_,j,s,hj=>by simp at hj
 |a::l,off,h,0,s,hj=>by
  simp only[List.map_cons,VSR,VSC]at h;simp at hj;subst hj;obtain⟨v,h1,_,h2⟩:=h.2.1.1;exact⟨v,h1,h2⟩
 |a::l,off,h,j+1,s,hj=>by
  simp only[List.map_cons,VSR]at h;have:=qU k h.2.2 j s (by simpa using hj)
  rwa [show off+1+j=off+(j+1)from by omega]at this
def bn(l:List (List UInt8)):List (List SV):=l.map fun s=>[.val (.string ⟨s.toArray⟩)]
theorem bq(l:List (List UInt8)):(bn l).length=l.length:=by simp[bn]
theorem lH{P:Program}{f:FuncId}(hE:Entr P f)
 (hj0:∀(a:Option Addr) (c:Nat) (sep:ByteArray) (w:World),Calls P f #[.slice a 0 c,.string sep] w fun e w'=>e= .returned (.string ⟨#[]⟩)∧w'=w)
 (hj:∀(bk o c:Nat) (xs:List ByteArray) (sep:ByteArray) (w:World),(∀(j:Nat) x,xs[j]?=some x→w.cell? ⟨bk,o+j,none⟩=some (.string x))→bk<w.heap.size→xs.length≤140737488355328→xs.length≤c→(Lib.join (xs.map (·.data.toList)) sep.data.toList).length≤140737488355328→
  Calls P f #[.slice (some ⟨bk,o,none⟩) xs.length c,.string sep] w fun e w'=>e= .returned (.string ⟨(Lib.join (xs.map (·.data.toList)) sep.data.toList).toArray⟩)∧Below w.heap.size w w')
 (l:List (List UInt8))(sep:List UInt8)(hn:l.length≤140737488355328)(hlen:(Lib.join l sep).length≤140737488355328):
 PC P f [.sv (.sl 1 (bn l)),.t sep] (.t (Lib.join l sep)):=by
 refine cL hE (by simp[an,LV.lt]) fun cx w vs hl _ hv=>?_;obtain⟨v1,v2,rfl,h1,h2⟩:∃v1 v2,vs=[v1,v2]∧V cx w (.sv (.sl 1 (bn l))) v1∧v2= .string ⟨sep.toArray⟩:=by
  simp only[Vs]at hv;obtain⟨v1,_,rfl,h1,v2,_,rfl,h2,rfl⟩:=hv;exact⟨v1,v2,rfl,h1,h2.val⟩
 subst h2;simp only[V,VS]at h1;have none_:∀(a:Option Addr) (c:Nat),l=[]→Calls P f #[.slice a 0 c,.string ⟨sep.toArray⟩] w fun e w'=>e= .returned (.string ⟨(Lib.join l sep).toArray⟩)∧Below w.heap.size w w':=by
  rintro a c rfl;refine(hj0 a c _ w).mono ?_;rintro e w' ⟨rfl,rfl⟩;exact⟨rfl,Below.refl _ _⟩
 rcases h1 with⟨rfl|⟨ad,cap,rfl,_⟩,he⟩|⟨b,off,cap,rfl,hle,_,hp,hr⟩
 exact none_ _ _ (by simpa[bn]using he);exact none_ _ _ (by simpa[bn]using he);rw[bq]at hle hp⊢;by_cases h0:l=[];have:l.length=0:=by rw[h0];rfl
 rw[this];exact none_ _ _ h0;have hpos:0<l.length:=List.length_pos_iff.2 h0;have e:(l.map fun s=>(⟨s.toArray⟩:ByteArray)).map (·.data.toList)=l:=by simp[List.map_map,Function.comp_def]
 have:=hj b off cap (l.map fun s=>(⟨s.toArray⟩:ByteArray)) ⟨sep.toArray⟩ w (fun j x hx=>by
  rw[List.getElem?_map]at hx;cases hs:l[j]? with
  |none=>rw[hs]at hx;cases hx
  |some s=>
   rw[hs]at hx;cases hx
   obtain⟨v,k1,k2⟩:=qU (fun s:List UInt8=>.val (.string ⟨s.toArray⟩)) hr j s hs;simp only[VS]at k2;rw[k1,k2]) (hl b (by omega)) (by simpa using hn) (by simpa using hle) (by rw[e];simpa using hlen)
 rw[e]at this;simpa using this
end Go.Proofs.YtgkhfpfjokagfaaGreatDoor
namespace Go.Proofs.YtgkhfpfjokagfaaGreatDoor
theorem Entr.of{P:Program}{f:FuncId}{fn:Func}{c:Code}(hf:P.funcs[f]?=some fn)(hb:fn.body=some c)(hname:(fn.name== "runtime.NumGoroutine")=false):Entr P f:=fun us w=>by
 simp only[callFunc,Sem.run_bind,Sem.run_pure,Result.andThen_ok];have hn':¬fn.name= "runtime.NumGoroutine" :=by simpa using hname
 simp[program,Sem.run,hf,hn',hb]
section
variable{P:Program}{r:Option Nat}{N:Nat}{D:List Nat}{B:bG}{Ψ:Exit→Act→World→Prop}{todo:List Item}
variable{E:List (Nat×bB)}{L:List (Nat×LO)}{n:Nat}
theorem iV(t:Nat){g b:Bool}(b':Bool)(ht:en E t=some (g,.b b):=by rfl)(hb:b=b')(h:LGo P r N D B Ψ todo (st ((t,(g,.b b'))::E) L n)):LGo P r N D B Ψ todo (st E L n):=by
 subst hb;exact BA t _ ht (fun _ _ _ hv=>hv) h
end
end Go.Proofs.YtgkhfpfjokagfaaGreatDoor
namespace Go.Proofs.YtgkhfpfjokagfaaGreatDoor
section
variable{P:Program}{r:Option Nat}{N:Nat}{D:List Nat}{B:bG}{Ψ:Exit→Act→World→Prop}{todo:List Item}
variable{E:List (Nat×bB)}{L:List (Nat×LO)}{n:Nat}
theorem yW{cx cx':Cx}{w w':World}(hl:CxLe cx cx')(hx:Ext cx.pr w cx'.pr w'){s:SV}{v:Value}:∀{cs:List LV} {k:Nat} {vs:List Value},k<cs.length→Vs cx w (cs.set k (.sv (.val v))) vs→VS cx'.pr w' s v→Vs cx' w' (cs.set k (.sv s)) vs
 |[],k,vs,hk,_,_=>by simp at hk
 |c::cs,0,vs,_,h,hv=>by
  simp only[List.set_cons_zero,Vs]at h⊢;obtain⟨x,rest,e,h1,h2⟩:=h;refine⟨x,rest,e,?_,Vs.mono hl hx _ _ h2⟩;have:=h1.val;subst this;simpa only[V]using hv
 |c::cs,k+1,vs,hk,h,hv=>by
  simp only[List.set_cons_succ,Vs]at h⊢;obtain⟨x,rest,e,h1,h2⟩:=h;exact⟨x,rest,e,V.mono hl hx _ _ h1,yW hl hx (by simpa using hk) h2 hv⟩
theorem Rel.frzBx(o:Nat){T k Te sz:Nat}{cs cs':List LV}{ys:List (List SV)}(hb:hp L o=some (.bx T cs k Te sz ys):=by rfl)(hcs:cs.set k (.sv (.sl sz ys))=cs':=by rfl)
 {cx:Cx}{a:Act}{w:World}(hr:Rel B N D (st E L n) cx a w):∃cx',Rel B N D (st E ((o,.box T cs')::cI o L) n) cx' a w:=by
 subst hcs;obtain⟨hAo,b,vs,v,h1,h2,h3,h4,h5,h5',h5'',h6,us,h7,h8,h9⟩:=hr.heap.ok o _ hb
 let pr':Nat→Nat:=fun c=>if some c=bk v then ys.length*sz else cx.pr c
 let c2:Cx:=⟨pr',cx.A,cx.loc,cx.inn⟩
 have hin:∀c,some c=bk v→cx.has o (.bx T cs k Te sz ys) c:=fun c hc=>.inr ⟨rfl,by rw[h5,←hc]⟩;have hpr0:∀c,some c=bk v→cx.pr c=0∧c<w.heap.size∧(B.w.heap.size≤c∨B.md c):=fun c hbb=>hr.heap.own o _ c hb (hin c hbb);have hext:Ext cx.pr w pr' w:=fun c off hbo=>by
  refine⟨?_,rfl⟩;show off<(if some c=bk v then _ else _);split;rename_i hh;have:=(hpr0 c hh).1;omega;exact hbo
 have hle:CxLe cx c2:=fun q hq=>⟨hq,rfl⟩;have hsl:VS pr' w (.sl sz ys) v:=by
  simp only[VS];rcases h7.2 with⟨e1,e2⟩|⟨gb,cap,cur,e1,_,e2,e3,e4,e5,e6⟩
  left;exact⟨.inl e1,List.eq_nil_of_length_eq_zero (by omega)⟩;right;have hbk:some gb=bk v:=by rw[e1];rfl
  refine⟨gb,0,cap,e1,by omega,e4,?_,?_⟩;show 0+ys.length*sz≤(if some gb=bk v then ys.length*sz else _);rw[if_pos hbk];omega;refine VSR.of_list e2 ys us 0 h6 h7.1 (fun j hj=>?_) h9 (fun j c u hc hv=>?_);rw[Nat.zero_add,←e6,List.getElem?_take,if_pos (by rw[←h7.1];exact hj)];simp;obtain⟨v',hv',hV⟩:=h8.get (i:=j) (c:= .sv c) (by rw[List.getElem?_map,hc];rfl);rw[hv]at hv';cases hv'
  simp only[V]at hV;exact VS.mono hext c u hV
 have get:∀q x,hp ((o,LO.box T (cs.set k (.sv (.sl sz ys))))::cI o L) q=some x→(q=o∧x= .box T (cs.set k (.sv (.sl sz ys))))∨(q≠o∧hp L q=some x):=by
  intro q x hx;rw[iS]at hx;unfold fS at hx;split at hx;rename_i hh;cases hx;exact .inl ⟨hh,rfl⟩
  rename_i hh;exact .inr ⟨hh,hx⟩
 have hhas:∀c,c2.has o (.box T (cs.set k (.sv (.sl sz ys)))) c→cx.has o (.bx T cs k Te sz ys) c∧some c≠bk v:=by
  intro c hc;rw[cY rfl]at hc;change bk (cx.loc o)=some c at hc;refine⟨.inl hc,fun e=>?_⟩;rw[h1]at hc;simp only[bk,Option.some.injEq]at hc;subst hc;exact h5' e.symm
 refine⟨c2,⟨⟨hr.grow.os,hr.grow.tape,hr.grow.output,hr.grow.size,hr.grow.same,fun c hbs hmd=>?_,hr.grow.ext.trans hext⟩,hr.le.trans hle,hr.hA,⟨fun q x hx=>?_,fun q x c hx hbq=>?_,fun q q' x x' c hne hx hx' hbq=>?_,fun c hbp=>?_⟩,hr.size,fun t e he=>?_,hr.df,hr.dA⟩⟩;show(if some c=bk v then _ else cx.pr c)=_;split;rename_i hh;rcases(hpr0 c hh).2.2 with k1|k1
 omega;exact absurd k1 hmd;exact hr.grow.prs c hbs hmd;rcases get q x hx with⟨rfl,rfl⟩|⟨_,hx'⟩
 exact⟨hAo,b,vs,h1,h2,yW hle hext h4 h3 hsl⟩;obtain⟨k1,k2⟩:=hr.heap.ok q x hx';exact⟨k1,ObjOk.mono hle hext k1 (fun _ _ _=>rfl) rfl k2⟩;show(if some c=bk v then _ else cx.pr c)=0∧_;rcases get q x hx with⟨rfl,rfl⟩|⟨hne,hx'⟩
 obtain⟨g1,g2⟩:=hhas c hbq;rw[if_neg g2];exact hr.heap.own _ _ c hb g1;obtain⟨k1,k2,k3⟩:=hr.heap.own q x c hx' hbq;rw[if_neg (fun hh=>hr.heap.inj q o x _ c hne hx' hb hbq (hin c hh))];exact⟨k1,k2,k3⟩;rcases get q x hx with⟨rfl,rfl⟩|⟨hne1,hx1⟩
 rcases get q' x' hx' with⟨rfl,rfl⟩|⟨hne2,hx2⟩
 exact absurd rfl hne;exact hr.heap.inj _ q' _ x' c hne hb hx2 (hhas c hbq).1;rcases get q' x' hx' with⟨rfl,rfl⟩|⟨hne2,hx2⟩
 intro hh;exact hr.heap.inj q _ x _ c hne hx1 hb hbq (hhas c hh).1;exact hr.heap.inj q q' x x' c hne hx1 hx2 hbq;change 0<(if some c=bk v then _ else cx.pr c)at hbp;split at hbp;rename_i hh;exact(hpr0 c hh).2.1;exact hr.heap.lim c hbp;exact(hr.env t e he).mono hle hext
theorem LGo.frzBx(o:Nat){T k Te sz:Nat}{cs cs':List LV}{ys:List (List SV)}(hb:hp L o=some (.bx T cs k Te sz ys):=by rfl)(hcs:cs.set k (.sv (.sl sz ys))=cs':=by rfl)
 (h:LGo P r N D B Ψ todo (st E ((o,.box T cs')::cI o L) n)):LGo P r N D B Ψ todo (st E L n):=
 LGo.conv (fun cx a w hr=>Rel.frzBx o hb hcs hr) h
theorem RelTo.frzBx(o:Nat){T k Te sz:Nat}{cs cs':List LV}{ys:List (List SV)}{Q:Act→World→Prop}(hb:hp L o=some (.bx T cs k Te sz ys):=by rfl)(hcs:cs.set k (.sv (.sl sz ys))=cs':=by rfl)
 (h:∀cx a w,Rel B N D (st E ((o,.box T cs')::cI o L) n) cx a w→Q a w):∀cx a w,Rel B N D (st E L n) cx a w→Q a w:=fun cx a w hr=>by
 obtain⟨cx',hr'⟩:=Rel.frzBx o hb hcs hr;exact h cx' a w hr'
end
end Go.Proofs.YtgkhfpfjokagfaaGreatDoor
namespace Go.Proofs.YtgkhfpfjokagfaaGreatDoor
section
variable{P:Program}{r:Option Nat}{N:Nat}{D:List Nat}{B:bG}{all:Array Oper}{K:List (Nat×Ct)→St→Prop}
variable{i:Nat}{ops:List Oper}{tr:List (Nat×Ct)}{E:List (Nat×bB)}{L:List (Nat×LO)}{n:Nat}{g:Bool}{gn:List (Nat×bB)}
variable{d ty:Nat}{pos:String}{aft:Array Edge}{gd:Option (Nat×Bool)}
theorem Hr{T m:Nat}(hF:Gd P T m){x:Operand}{gx:Bool}{cs:List SV}
 (ho:all[i]?=some ⟨some d,.slice T x none none none,ty,pos,aft,gd⟩:=by rfl)(hg:GuardOk (en E) all gd g gn:=by first|exact gN|exact gS rfl rfl)
 (hx:aP (en E) x=some (gx,.sv (.at_ cs)):=by rfl)(hgx:g=true→gx=true:=by first|exact fun _=>rfl|exact id)(hm:cs.length=m:=by rfl)(hml:m≤4294967296:=by decide)
 (h:Reg P r N D B all (i+1) ops ((i,bK gn [x] [(gx,.sv (.at_ cs))] (some d) (g,.sv (.sl 1 (cs.map fun c=>[c]))) [])::tr) (st ((d,(g,.sv (.sl 1 (cs.map fun c=>[c]))))::E) L n) K):
 Reg P r N D B all i (⟨some d,.slice T x none none none,ty,pos,aft,gd⟩::ops) tr (st E L n) K:=
 Reg.one rfl (fun h=>by
  rw[aE h hgx];refine bm (x:=x) rfl (by simp) fun md n0 cx H ρ w hok hrd v1=>?_;obtain⟨e,hu,hz⟩:=hF;simp only[V,VS]at v1;obtain⟨b,off,he,hle,hc⟩:=v1;refine⟨.slice (some ⟨b,off,none⟩) m m,?_,?_⟩;have hadd:(⟨b,off,none⟩:Addr).add 0=⟨b,off,none⟩:=rfl;simp[execOp,he,Instr.sliceAt,hu w,Instr.sureAddr,Instr.sliceBounds,hz w,hadd];simp only[V,VS];exact .inr ⟨b,off,m,by simp[hm],by simp[hm],by unfold maxLen;omega,by simp;omega,VSC.rows hc⟩) ho hg hx (by simp) h
theorem B0(P:Program)(k:IntKind)(a b:Int)(w:World)(tys:Array TypeId)(t:TypeId):(Builtin.max_ tys t #[.int k a,.int k b]).run P w= .ok (.int k (max a b)) w:=by
 simp only[Builtin.max_,List.foldlM,Builtin.max2];by_cases h:b>a;simp[h,show max a b=b by omega];simp[h,show max a b=a by omega]
theorem wV{x y:Operand}{gx gy:Bool}{k:IntKind}{a b:Int}{tys:Array TypeId}
 (ho:all[i]?=some ⟨some d,.call {callee:= .builtin .max,args:=#[x,y],argTypes:=tys},ty,pos,aft,gd⟩:=by rfl)(hg:GuardOk (en E) all gd g gn:=by first|exact gN|exact gS rfl rfl)
 (hx:aP (en E) x=some (gx,.v (.int k a)):=by rfl)(hy:aP (en E) y=some (gy,.v (.int k b)):=by rfl)(hgx:g=true→gx=true:=by first|exact fun _=>rfl|exact id)(hgy:g=true→gy=true:=by first|exact fun _=>rfl|exact id)
 (h:Reg P r N D B all (i+1) ops ((i,bK gn [x,y] [(gx,.v (.int k a)),(gy,.v (.int k b))] (some d) (g,.v (.int k (Max.max a b))) [])::tr) (st ((d,(g,.v (.int k (Max.max a b))))::E) L n) K):
 Reg P r N D B all i (⟨some d,.call {callee:= .builtin .max,args:=#[x,y],argTypes:=tys},ty,pos,aft,gd⟩::ops) tr (st E L n) K:=
 Reg.two rfl (fun h=>by
  rw[aE h hgx,aE h hgy];refine bj (x:=x) (y:=y) rfl (by simp) fun md n0 cx H ρ w _ _ v1 v2=>?_;refine⟨.int k (Max.max a b),?_,aZ⟩;simp[execOp,resolve,invoke,builtin,v1.val,v2.val,B0]) ho hg hx hy (by simp) h
theorem tV{md:Nat→Prop}{n0:Nat}{cx:Cx}{H:Hp}{w:World}(hok:HOk md n0 cx H w)(ob:Obj)(k:Nat):
 Tr cx w (hp []) ⟨fun b=>if b=w.heap.size then k else cx.pr b,cx.A,cx.loc,cx.inn⟩ (w.alloc ob) (hp []) (·∈([]:List Nat)):=by
 have hold:∀b,b<w.heap.size→(w.alloc ob).heap[b]?=w.heap[b]?:=fun b hb=>heap_alloc_old w ob hb;have hsz:(w.alloc ob).heap.size=w.heap.size+1:=by simp
 have hprold:∀b,b<w.heap.size→(if b=w.heap.size then k else cx.pr b)=cx.pr b:=fun b hb=>by rw[if_neg (by omega)]
 refine⟨fun o ho=>⟨ho,rfl⟩,fun o=>by simp,⟨rfl,rfl,rfl,by omega,fun b hb _=>hold b hb,fun b hb _=>hprold b hb,fun b off hb=>?_⟩,
  ⟨fun o x hx=>by simp at hx,fun o x b hx=>by simp at hx,fun o o' x x' b _ hx=>by simp at hx,fun b hb=>?_⟩,fun _ _ _=>rfl⟩
 have hbs:=hok.lim b (by omega);refine⟨by show off<(if b=w.heap.size then k else cx.pr b);rw[hprold b hbs];exact hb,?_⟩;simp only[World.cell?,hold b hbs];have hb':0<(if b=w.heap.size then k else cx.pr b):=hb;split at hb';omega;have:=hok.lim b hb';omega
theorem tw(k:IntKind):∀l:List Int,(ic k l).flatten=l.map fun x=>.val (.int k x)
 |[]=>rfl
 |a::l=>by have:=tw k l;simp only[ic,List.map_cons,List.flatten_cons]at this⊢;rw[this];rfl
theorem yZ{t e m:Nat}{k:IntKind}(hF:AppF P t e 1)(hz:((P.info? e).bind fun i=>i.zero)=some (.int k 0)){x y:Operand}{k1 k2:IntKind}
 (ho:all[i]?=some ⟨some d,.makeSlice t x y,ty,pos,aft,none⟩:=by rfl)
 (hx:aP (en E) x=some (true,.v (.int k1 (m:Nat))):=by rfl)(hy:aP (en E) y=some (true,.v (.int k2 (m:Nat))):=by rfl)(hm:m≤16777216:=by decide)
 (h:Reg P r N D B all (i+1) ops ((i,bK [] [x,y] [(true,.v (.int k1 (m:Nat))),(true,.v (.int k2 (m:Nat)))] (some d) (true,.sv (.sl 1 (ic k (List.replicate m 0)))) [])::tr) (st ((d,(true,.sv (.sl 1 (ic k (List.replicate m 0)))))::E) L n) K):
 Reg P r N D B all i (⟨some d,.makeSlice t x y,ty,pos,aft,none⟩::ops) tr (st E L n) K:=
 Reg.two (e:=(true,.v (.int k1 (m:Nat)))) (f:=(true,.v (.int k2 (m:Nat)))) rfl (fun _=>bO (by simp) (by simp) fun md n0 cx H ρ w hok _ _ _ hv=>by
  have hop:(Oper.mk (some d) (.makeSlice t x y) ty pos aft none).op.operands.toList=[x,y]:=rfl;rw[hop]at hv;obtain⟨v1,v2⟩:=Vs.two hv;simp only[bD]at v1 v2;obtain⟨hu,inf,z,hi,hzz,hs,hbb,_⟩:=hF.get;have hz0:inf.zero=some (.int k 0):=by rw[hi]at hz;simpa using hz
  have hrun:=run_make w t e inf z hu hi hzz k1 k2 m m (by omega) (Int.le_refl _) (by have:=Nat.mul_le_mul hbb hm;omega) (by omega);rw[hz0]at hzz;cases hzz
  have hcells:madeCells (Value.int k 0).cells ((m:Int).toNat*inf.size)=(List.replicate m (Value.int k 0)).toArray:=by
   rw[hs,Int.toNat_natCast,Nat.mul_one];apply Array.ext;simp[size_madeCells];intro j h1 h2;simp[madeCells,Value.cells,Nat.mod_one]
  rw[hcells]at hrun;refine⟨.value (.slice (some ⟨w.heap.size,0,none⟩) m m),_,_,_,?_,.inl rfl,tV hok (.cells (List.replicate m (Value.int k 0)).toArray e) m,?_⟩;simp only[execOp,v1.val,v2.val,Sem.run_bind,hrun];simp;simp only[V,VS];refine .inr ⟨w.heap.size,0,m,by simp[ic],by simp[ic],by unfold maxLen;omega,by simp[ic],?_⟩;refine VSR.of_list (heap_alloc_new w _) _ (List.replicate m (Value.int k 0)) 0 (fun e he=>?_) (by simp[ic]) (fun j hj=>by simp[List.getElem?_replicate,Array.getElem?_replicate]) (fun u hu=>?_) (fun j c v hc hv=>?_);obtain⟨x,_,rfl⟩:=List.mem_map.1 he;rfl;obtain⟨_,rfl⟩:=List.mem_replicate.1 hu;rfl;rw[tw,List.getElem?_map]at hc;have hj:j<m:=by have:=(List.getElem?_eq_some_iff.1 hv).1;simpa using this
  simp[hj]at hc hv;subst hc hv;simp[VS]) ho gN hx hy (by simp) h
end
end Go.Proofs.YtgkhfpfjokagfaaGreatDoor
namespace Go.Proofs.YtgkhfpfjokagfaaGreatDoor
theorem oT{cx:Cx}{w:World}{n T sz:Nat}{ys:List (List SV)}{pr':Nat→Nat}(h:ObjOk cx w n (.rs T sz ys))(hext:Ext cx.pr w pr' w)(hp:∀b,bk (cx.loc n)=some b→ys.length*sz≤pr' b):VS pr' w (.sl sz ys) (cx.loc n):=by
 obtain⟨hsz,vs,hown,hvs,hones⟩:=h;simp only[VS];rcases hown.2 with⟨e1,e2⟩|⟨gb,cap,cur,e1,_,e2,e3,e4,e5,e6⟩
 exact .inl ⟨.inl e1,List.eq_nil_of_length_eq_zero e2⟩;refine .inr ⟨gb,0,cap,e1,e3,e4,by have:=hp gb (by rw[e1];rfl);omega,?_⟩;refine VSR.of_list e2 ys vs 0 (fun e he=>?_) hown.1 (fun j hj=>?_) hones (fun j c u hc hu=>?_);have:=hsz e he;simpa using this;rw[Nat.zero_add,←e6,List.getElem?_take,if_pos (by rw[←hown.1];exact hj)];simp;obtain⟨v',hv',hV⟩:=hvs.get (i:=j) (c:= .sv c) (by rw[List.getElem?_map,hc];rfl);rw[hu]at hv';cases hv'
 simp only[V]at hV;exact VS.mono hext c u hV
theorem Du{P:Program}{r:Option Nat}{o:Oper}{lvs:List LV}{rd Hi:List (Nat×LO)}{n T sz:Nat}{ys:List (List SV)}(h:OpC P r o lvs rd Hi (.ref n) [(n,.rs T sz ys)] [n]):
 OpC P r o lvs rd Hi (.sv (.sl sz ys)) [] [n]:=by
 refine⟨by simp,fun md n0 cx H a w K Q hok ham hrd hHi hnew hv hK=>?_⟩;refine h.2 md n0 cx H a w K Q hok ham hrd hHi hnew hv (fun cx' w' v t hv'=>?_);simp only[V]at hv';obtain⟨hA,rfl,_⟩:=hv';have hob:hp [(n,LO.rs T sz ys)] n=some (.rs T sz ys):=by simp
 have hnb:∀b,bk (cx'.loc n)=some b→cx'.pr b=0∧b<w'.heap.size∧(w.heap.size≤b∨cf cx (hp Hi) b):=fun b hb=>t.heap.own n _ b hob (.inl hb)
 let pr':Nat→Nat:=fun b=>if bk (cx'.loc n)=some b then ys.length*sz else cx'.pr b
 have hext:Ext cx'.pr w' pr' w':=fun b off hbo=>by
  refine⟨?_,rfl⟩;show off<(if bk (cx'.loc n)=some b then _ else _);split;rename_i hh;have:=(hnb b hh).1;omega;exact hbo
 refine hK ⟨pr',cx'.A,cx'.loc,cx'.inn⟩ w' _ ⟨t.le,t.A,⟨t.grow.os,t.grow.tape,t.grow.output,t.grow.size,t.grow.same,fun b hlt hn=>?_,t.grow.ext.trans hext⟩,
  ⟨fun q y hy=>by simp at hy,fun q y b hy=>by simp at hy,fun q q' y y' b _ hy=>by simp at hy,fun b hb=>?_⟩,t.inn⟩ ?_
 show(if bk (cx'.loc n)=some b then _ else cx'.pr b)=_;rw[if_neg (fun hh=>?_)];exact t.grow.prs b hlt hn;rcases(hnb b hh).2.2 with h1|h1
 omega;exact hn h1;have hb':0<(if bk (cx'.loc n)=some b then ys.length*sz else cx'.pr b):=hb;split at hb';rename_i hh;exact(hnb b hh).2.1;exact t.heap.lim b hb';simp only[V];exact oT (t.heap.ok n _ hob).2 hext (fun b hb=>by show _≤(if bk (cx'.loc n)=some b then _ else _);rw[if_pos hb];exact Nat.le_refl _)
section
variable{P:Program}{r:Option Nat}{N:Nat}{D:List Nat}{B:bG}{all:Array Oper}{K:List (Nat×Ct)→St→Prop}
variable{i:Nat}{ops:List Oper}{tr:List (Nat×Ct)}{E:List (Nat×bB)}{L:List (Nat×LO)}{n:Nat}{g:Bool}{gn:List (Nat×bB)}
variable{d ty:Nat}{pos:String}{aft:Array Edge}{gd:Option (Nat×Bool)}
theorem BO(L:List (Nat×LO))(o:Nat)(x:LO):jA L [(o,x)] []=cI o L:=by
 simp only[jA,cI,List.nil_append,List.map_cons,List.map_nil];congr 1;funext p;by_cases hpo:p.1=o<;>simp[hpo]
theorem sI{t tx e sz:Nat}(hF:AppF P t e sz){x y:Operand}{o:Nat}{xs ys:List (List SV)}{lv:LV}{rd:List (Nat×LO)}
 (ho:all[i]?=some ⟨some d,.call {callee:= .builtin .append,args:=#[x,y],argTypes:=#[t,tx]},ty,pos,aft,none⟩:=by rfl)
 (hx:aP (en E) x=some (true,.ref o):=by rfl)(hy:aP (en E) y=some (true,lv):=by rfl)(hb:hp L o=some (.rs e sz xs):=by rfl)
 (hs:SrcOk P tx sz lv rd (ys.map (List.map LV.sv)))(hrd:∀k x,hp rd k=some x→hp L k=some x:=by first|exact jC|exact jB rfl)(h0:0<sz:=by decide)(hlen:(xs.length+ys.length)*sz≤4398046511104)
 (h:Reg P r N D B all (i+1) ops ((i,⟨bA [x,y] [(true,.ref o),(true,lv)],some d,(true,.sv (.sl sz (xs++ys))),rd,[(o,.rs e sz xs)],[],[n]⟩)::tr) (st ((d,(true,.sv (.sl sz (xs++ys))))::E) (cI o L) (n+1)) K):
 Reg P r N D B all i (⟨some d,.call {callee:= .builtin .append,args:=#[x,y],argTypes:=#[t,tx]},ty,pos,aft,none⟩::ops) tr (st E L n) K:=by
 refine gM (m:=1) (es:=[(true,.ref o),(true,lv)]) (rd:=rd) (Hi:=[(o,.rs e sz xs)]) (Ho:=[]) (out:= .sv (.sl sz (xs++ys))) ho gN ⟨_,_,rfl,hx,_,_,rfl,hy,rfl⟩ hrd (jB hb) ?_ ?_;refine Du (T:=e) ?_;refine bO (by simp) (by simp) fun md n0 cx H ρ w hok hrd' hHi hnew hv=>?_;have hop:(Oper.mk (some d) (.call {callee:= .builtin .append,args:=#[x,y],argTypes:=#[t,tx]}) ty pos aft none).op.operands.toList=[x,y]:=rfl;rw[hop]at hv;obtain⟨v1,v2⟩:=Vs.two hv;simp only[bD]at v1 v2;obtain⟨news,hsrc,hnv⟩:=hs.2 md n0 cx H w _ hok hrd' v2;simp only[V]at v1;have hob:=hHi o (.rs e sz xs) (by simp);obtain⟨v,w',cx',h1,h2,h3⟩:=lu (o':=n) (xs:=xs.map (List.map LV.sv)) (ys:=ys.map (List.map LV.sv)) hF h0 (hok.tell hob ObjOk.rs_row) (o:=o) (by simp[fS]) (hnew n (by simp)) hsrc hs.1 hnv (by simpa using hlen) ty;refine⟨_,v,w',cx',?_,.inl rfl,h2.tell (fun hx=>e7 (by simpa using hx)),h3⟩;have hx':ρ x=cx.loc o:=v1.2.1;simp[execOp,resolve,invoke,builtin,hx',h1];have e1:st (fL (some d) (true,.sv (.sl sz (xs++ys))) E) (jA L [(o,.rs e sz xs)] []) (n+1)=st ((d,(true,.sv (.sl sz (xs++ys))))::E) (cI o L) (n+1):=by
  simp only[st,BO,fL]
 rw[e1];exact h
end
end Go.Proofs.YtgkhfpfjokagfaaGreatDoor
namespace Go.Proofs.YtgkhfpfjokagfaaGreatDoor
theorem sk{sz:Nat}:∀(xs:List (List SV)) (j f:Nat) (c:SV) (ev:List SV),(∀e∈xs,e.length=sz)→xs[j]?=some ev→f<sz→(xs.set j (ev.set f c)).flatten=xs.flatten.set (j*sz+f) c
 |[],j,f,c,ev,_,h,_=>by simp at h
 |x::xs,0,f,c,ev,hs,h,hf=>by
  simp at h;subst h;have hx:=hs x (by simp);rw[List.set_cons_zero,List.flatten_cons,List.flatten_cons,Nat.zero_mul,Nat.zero_add,List.set_append_left _ _ (by omega)]
 |x::xs,j+1,f,c,ev,hs,h,hf=>by
  have hx:=hs x (by simp);have ih:=sk xs j f c ev (fun e h'=>hs e (by simp[h'])) (by simpa using h) hf;rw[List.set_cons_succ,List.flatten_cons,List.flatten_cons,ih,List.set_append_right _ _ (by rw[hx,Nat.succ_mul];omega)];congr 2;rw[hx,Nat.succ_mul];omega
section
variable{P:Program}{r:Option Nat}{N:Nat}{D:List Nat}{B:bG}{all:Array Oper}{K:List (Nat×Ct)→St→Prop}
variable{i:Nat}{ops:List Oper}{tr:List (Nat×Ct)}{E:List (Nat×bB)}{L:List (Nat×LO)}{n:Nat}
variable{ty:Nat}{pos:String}{aft:Array Edge}
theorem jf{T e sz:Nat}(hF:dP P T){x y:Operand}{o off:Nat}{xs:List (List SV)}{c:SV}(j f:Nat)(ev:List SV)
 (ho:all[i]?=some ⟨none,.store T x y,ty,pos,aft,none⟩:=by rfl)
 (hx:aP (en E) x=some (true,.ptr o off):=by rfl)(hy:aP (en E) y=some (true,.sv c):=by rfl)(h1:(LV.sv c).one=true:=by rfl)(hb:hp L o=some (.rs e sz xs):=by rfl)
 (hj:xs[j]?=some ev)(hoff:off=j*sz+f:=by omega)(h0:f<sz:=by decide)
 (h:Reg P r N D B all (i+1) ops ((i,⟨bA [x,y] [(true,.ptr o off),(true,.sv c)],none,(true,.v undef),[],[(o,.rs e sz xs)],[(o,.rs e sz (xs.set j (ev.set f c)))],[]⟩)::tr) (st E ((o,.rs e sz (xs.set j (ev.set f c)))::L) n) K):
 Reg P r N D B all i (⟨none,.store T x y,ty,pos,aft,none⟩::ops) tr (st E L n) K:=
 Reg.set (es:=[(true,.ptr o off),(true,.sv c)]) (rd:=[]) ho gN ⟨_,_,rfl,hx,_,_,rfl,hy,rfl⟩ (by simp) hb (bO (by simp) (by simp) fun md n0 cx H ρ w hok _ hHi _ hv=>by
  obtain⟨v1,v2⟩:=Vs.two hv;simp only[bD]at v1 v2;have hob:=hHi o (.rs e sz xs) (by simp);obtain⟨hA,hsz,vs,hown,hvs,hone⟩:=hok.ok o _ hob;simp only[V]at v1;obtain⟨_,b,hbk,hp1⟩:=v1;have hjl:j<xs.length:=(List.getElem?_eq_some_iff.1 hj).1;rcases hown.2 with⟨e1,e2⟩|⟨gb,cap,cur,e1,eb,e2,e3,e4,e5,e6⟩
  omega;have hbk':=hbk;rw[e1]at hbk;simp only[bk,Option.some.injEq]at hbk;subst hbk;have hjs:j*sz+sz≤xs.length*sz:=by rw[←Nat.succ_mul];exact Nat.mul_le_mul_right _ hjl
  have hcs:xs.length*sz≤cur.size:=by rw[e5];exact Nat.mul_le_mul_right _ e3
  have hlt:off<cur.size:=by omega
  have hon:=fJ h1 v2;have hcell:w.cell? ⟨gb,off,none⟩=some cur[off]:=by simp[World.cell?,e2,hlt]
  have hfr:w.frozen? ⟨gb,off,none⟩=false:=by simp[World.frozen?,e2]
  have hw':(w.setCell ⟨gb,off,none⟩ (ρ y)).heap[gb]?=some (.cells (cur.setIfInBounds off (ρ y)) e (0,0)):=by
   simp only[World.setCell,Array.getElem?_modify,if_true,e2,Option.map_some];simp
  have hoth:∀k,k≠gb→(w.setCell ⟨gb,off,none⟩ (ρ y)).heap[k]?=w.heap[k]?:=by
   intro k hk;simp only[World.setCell,Array.getElem?_modify,if_neg (Ne.symm hk)]
  have hlen:(xs.set j (ev.set f c)).length=xs.length:=List.length_set;have hel:ev.length=sz:=hsz ev (List.mem_of_getElem? hj);refine⟨.skip,undef,w.setCell ⟨gb,off,none⟩ (ρ y),cx,?_,.inr ⟨rfl,rfl⟩,Tr.set hok hob hbk' ⟨rfl,rfl,rfl⟩ (by simp[World.setCell]) hoth (fun hext=>?_),aZ⟩;have hst:=run_store P w ⟨gb,off,none⟩ (ρ y) .plain hon;rw[hcell]at hst;simp only[hfr,Bool.false_eq_true,if_false]at hst;have hadd:(⟨gb,off,none⟩:Addr).add 0=⟨gb,off,none⟩:=rfl;simp[execOp,hp1,Instr.storeAt,Instr.sureAddr,storeVar,kz hon,hF.2 w,storeCells,hadd,hst];refine⟨uK hsz (by rw[List.length_set];exact hel) j,vs.set off (ρ y),⟨?_,.inr ⟨gb,cap,_,?_,eb,hw',?_,e4,?_,?_⟩⟩,?_,?_⟩;rw[hlen,List.length_set];exact hown.1;rw[hlen];exact e1;rw[hlen];exact e3;rw[←e5];simp;rw[hlen,←e6,Array.toList_setIfInBounds,List.take_set];rw[sk xs j f c ev hsz hj h0,List.map_set,←hoff];exact Vs.set (Vs.mono (CxLe.refl _) hext _ _ hvs) (V.mono (CxLe.refl _) hext _ _ v2);intro u hu';rcases List.mem_or_eq_of_mem_set hu' with hu'|rfl
  exact hone u hu';exact hon) h
end
end Go.Proofs.YtgkhfpfjokagfaaGreatDoor
namespace Go.Proofs.YtgkhfpfjokagfaaGreatDoor
section
variable{P:Program}{r:Option Nat}{N:Nat}{D:List Nat}{B:bG}{all:Array Oper}{K:List (Nat×Ct)→St→Prop}
variable{i:Nat}{ops:List Oper}{tr:List (Nat×Ct)}{E:List (Nat×bB)}{L:List (Nat×LO)}{n:Nat}{g:Bool}{gn:List (Nat×bB)}
variable{d ty:Nat}{pos:String}{aft:Array Edge}{gd:Option (Nat×Bool)}
end
end Go.Proofs.YtgkhfpfjokagfaaGreatDoor
namespace Go.Proofs.YtgkhfpfjokagfaaGreatDoor
section
open Go.ChangeShapes Go.WideShapes Go.Deep Go.RowKit Go.ChangeAt
end
end Go.Proofs.YtgkhfpfjokagfaaGreatDoor
namespace Go.Proofs.YtgkhfpfjokagfaaGreatDoor
theorem qX{P:Program}{r:Option Nat}{o:Oper}{lvs:List LV}{rd:List (Nat×LO)}{out:LV}(hnd:∀c,o.op≠ .defer c)
 (h:∀(md:Nat→Prop) (n0:Nat) (cx:Cx) (H:Hp) (ρ:Operand→Value) (w:World),HOk md n0 cx H w→Amb cx.pr w→(∀o x,hp rd o=some x→H o=some x)→Vs cx w lvs (o.op.operands.toList.map ρ)→
  ∃v,(execOp ρ o).run P w= .ok (.value v) w∧V cx w out v):OpC P r o lvs rd [] out [] []:=by
 refine⟨by simp,fun md n0 cx H a w K Q hok ham hrd hHi hnew hv hK=>?_⟩;obtain⟨v,h1,h4⟩:=h md n0 cx H a.eval w hok ham hrd hv;refine⟨fun _ _=>trivial,?_⟩;rw[Oper.semAt_eq _ _ _ hnd,h1];exact hK _ _ _ (tG hok) h4
theorem DG(cx:Cx)(w:World):∀l:List Value,Vs cx w (l.map LV.v) l
 |[]=>by simp[Vs]
 |v::l=>by simp only[List.map_cons,Vs];exact⟨v,l,rfl,aZ,DG cx w l⟩
section
variable{P:Program}{r:Option Nat}{N:Nat}{D:List Nat}{B:bG}{all:Array Oper}{K:List (Nat×Ct)→St→Prop}
variable{i:Nat}{ops:List Oper}{tr:List (Nat×Ct)}{E:List (Nat×bB)}{L:List (Nat×LO)}{n:Nat}{g:Bool}{gn:List (Nat×bB)}
variable{d ty:Nat}{pos:String}{aft:Array Edge}{gd:Option (Nat×Bool)}
theorem Dr{T len sz:Nat}(hF:IndexAF P T len sz){x y:Operand}{gx gy:Bool}{b off:Nat}{k:IntKind}{j:Int}
 (ho:all[i]?=some ⟨some d,.indexAddr T x y,ty,pos,aft,gd⟩:=by rfl)(hg:GuardOk (en E) all gd g gn:=by first|exact gN|exact gS rfl rfl)
 (hx:aP (en E) x=some (gx,.v (.pointer (some ⟨b,off,none⟩))):=by rfl)(hy:aP (en E) y=some (gy,.v (.int k j)):=by rfl)
 (hgx:g=true→gx=true:=by first|exact fun _=>rfl|exact id)(hgy:g=true→gy=true:=by first|exact fun _=>rfl|exact id)
 (hj:g=true→0≤j∧j<len)
 (h:Reg P r N D B all (i+1) ops ((i,bK gn [x,y] [(gx,.v (.pointer (some ⟨b,off,none⟩))),(gy,.v (.int k j))] (some d) (g,.v (.pointer (some ⟨b,off+j.toNat*sz,none⟩))) [])::tr) (st ((d,(g,.v (.pointer (some ⟨b,off+j.toNat*sz,none⟩))))::E) L n) K):
 Reg P r N D B all i (⟨some d,.indexAddr T x y,ty,pos,aft,gd⟩::ops) tr (st E L n) K:=
 Reg.two rfl (fun h=>by
  rw[aE h hgx,aE h hgy];refine bj (x:=x) (y:=y) rfl (by simp) fun md n0 cx H ρ w hok hrd v1 v2=>?_;obtain⟨h0,hlt⟩:=hj h;exact⟨.pointer (some ⟨b,off+j.toNat*sz,none⟩),by simp only[execOp,v1.val,v2.val];simp[hF b off k j w h0 hlt],aZ⟩) ho hg hx hy (by simp) h
theorem Dq{T:Nat}(hF:dP P T){x:Operand}{gx:Bool}{b off:Nat}{cs:List Value}{v:Value}(hm:(b,cs)∈oL)
 (ho:all[i]?=some ⟨some d,.load T x,ty,pos,aft,gd⟩:=by rfl)(hg:GuardOk (en E) all gd g gn:=by first|exact gN|exact gS rfl rfl)
 (hx:aP (en E) x=some (gx,.v (.pointer (some ⟨b,off,none⟩))):=by rfl)(hgx:g=true→gx=true:=by first|exact fun _=>rfl|exact id)(hc:g=true→cs[off]?=some v)
 (h:Reg P r N D B all (i+1) ops ((i,bK gn [x] [(gx,.v (.pointer (some ⟨b,off,none⟩)))] (some d) (g,.v v) [])::tr) (st ((d,(g,.v v))::E) L n) K):
 Reg P r N D B all i (⟨some d,.load T x,ty,pos,aft,gd⟩::ops) tr (st E L n) K:=
 Reg.one rfl (fun h=>by
  rw[aE h hgx];refine qX (by simp) fun md n0 cx H ρ w hok ham _ hv=>?_;have hop:(Oper.mk (some d) (.load T x) ty pos aft gd).op.operands.toList=[x]:=rfl;rw[hop]at hv;have e:=(Vs.one hv).val;obtain⟨_,T',fr,hb⟩:=ham.1 _ hm;have hcell:w.cell? ⟨b,off,none⟩=some v:=by simp[World.cell?,hb,hc h]
  exact⟨v,by simp[execOp,e,Instr.loadAt,Instr.sureAddr,loadVar,hF.1 w,hcell],aZ⟩) ho hg hx (by simp) h
theorem vN{T sz:Nat}(hF:dO P T sz){x:Operand}{gx:Bool}{b:Nat}{cs:List Value}(hm:(b,cs)∈oL)
 (ho:all[i]?=some ⟨some d,.load T x,ty,pos,aft,gd⟩:=by rfl)(hg:GuardOk (en E) all gd g gn:=by first|exact gN|exact gS rfl rfl)
 (hx:aP (en E) x=some (gx,.v (.pointer (some ⟨b,0,none⟩))):=by rfl)(hgx:g=true→gx=true:=by first|exact fun _=>rfl|exact id)(hc:cs.length=sz:=by rfl)
 (h:Reg P r N D B all (i+1) ops ((i,bK gn [x] [(gx,.v (.pointer (some ⟨b,0,none⟩)))] (some d) (g,.agg (cs.map LV.v)) [])::tr) (st ((d,(g,.agg (cs.map LV.v)))::E) L n) K):
 Reg P r N D B all i (⟨some d,.load T x,ty,pos,aft,gd⟩::ops) tr (st E L n) K:=
 Reg.one rfl (fun h=>by
  rw[aE h hgx];refine qX (by simp) fun md n0 cx H ρ w hok ham _ hv=>?_;have hop:(Oper.mk (some d) (.load T x) ty pos aft gd).op.operands.toList=[x]:=rfl;rw[hop]at hv;have e:=(Vs.one hv).val;obtain⟨_,T',fr,hb⟩:=ham.1 _ hm;refine⟨.agg cs.toArray,?_,by simp only[V];exact⟨cs,rfl,DG cx w cs⟩⟩;have hl:(loadCells ⟨b,0,none⟩ cs.length).run P w= .ok cs.toArray w:=run_loadCells_list (P:=P) w ⟨b,0,none⟩ cs (fun j v hv=>by
   rw[pb,Nat.zero_add];simp[World.cell?,hb,hv])
  rw[hc]at hl;simp[execOp,e,Instr.loadAt,Instr.sureAddr,loadVar,hF.1 w,hF.2 w,hl]) ho hg hx (by simp) h
def y4(P:Program)(T len sz:Nat):Prop:=∃e,(∀w,(underlying T).run P w= .ok (.array len e) w)∧(∀w,(isAgg e).run P w= .ok true w)∧(∀w,(sizeOf e).run P w= .ok sz w)
theorem dI{T len sz:Nat}(hF:y4 P T len sz){x y:Operand}{gx gy:Bool}{cs:List Value}{k:IntKind}{j:Int}
 (ho:all[i]?=some ⟨some d,.index T x y,ty,pos,aft,gd⟩:=by rfl)(hg:GuardOk (en E) all gd g gn:=by first|exact gN|exact gS rfl rfl)
 (hx:aP (en E) x=some (gx,.agg (cs.map LV.v)):=by rfl)(hy:aP (en E) y=some (gy,.v (.int k j)):=by rfl)
 (hgx:g=true→gx=true:=by first|exact fun _=>rfl|exact id)(hgy:g=true→gy=true:=by first|exact fun _=>rfl|exact id)
 (hj:g=true→0≤j∧j<len)
 (h:Reg P r N D B all (i+1) ops ((i,bK gn [x,y] [(gx,.agg (cs.map LV.v)),(gy,.v (.int k j))] (some d) (g,.agg (((cs.drop (j.toNat*sz)).take sz).map LV.v)) [])::tr) (st ((d,(g,.agg (((cs.drop (j.toNat*sz)).take sz).map LV.v)))::E) L n) K):
 Reg P r N D B all i (⟨some d,.index T x y,ty,pos,aft,gd⟩::ops) tr (st E L n) K:=
 Reg.two rfl (fun h=>by
  rw[aE h hgx,aE h hgy];refine bj (x:=x) (y:=y) rfl (by simp) fun md n0 cx H ρ w hok hrd v1 v2=>?_;obtain⟨h0,hlt⟩:=hj h;obtain⟨e,hT,he,hs⟩:=hF;have e1:=wU (cs:=cs) rfl v1;refine⟨.agg ((cs.drop (j.toNat*sz)).take sz).toArray,?_,by simp only[V];exact⟨_,rfl,DG cx w _⟩⟩;have hx:cs.toArray.extract (j.toNat*sz) (j.toNat*sz+sz)=((cs.drop (j.toNat*sz)).take sz).toArray:=by
   rw[List.extract_toArray,List.extract_eq_take_drop];congr 2;omega
  simp only[execOp,e1,v2.val];simp[Instr.index,asIntOf,hT w,hs w,h0,hlt,part,he w,hx]) ho hg hx hy (by simp) h
end
end Go.Proofs.YtgkhfpfjokagfaaGreatDoor
namespace Go.Proofs.YtgkhfpfjokagfaaGreatDoor
section
variable{P:Program}{r:Option Nat}{N:Nat}{D:List Nat}{B:bG}{all:Array Oper}{K:List (Nat×Ct)→St→Prop}
variable{i:Nat}{ops:List Oper}{tr:List (Nat×Ct)}{E:List (Nat×bB)}{L:List (Nat×LO)}{n:Nat}{g:Bool}{gn:List (Nat×bB)}
variable{d ty:Nat}{pos:String}{aft:Array Edge}{gd:Option (Nat×Bool)}
theorem rB(v:Value)(h:v.cells=#[v])(m:Nat):madeCells v.cells m=(List.replicate m v).toArray:=by
 rw[h];apply Array.ext;simp[size_madeCells];intro j h1 h2;simp[madeCells,Nat.mod_one]
theorem Av{t e:Nat}{k:IntKind}(hF:AppF P t e 1)(hz:((P.info? e).bind fun i=>i.zero)=some (.int k 0)){x y:Operand}{k1 k2:IntKind}{l c:Int}
 (ho:all[i]?=some ⟨some d,.makeSlice t x y,ty,pos,aft,none⟩:=by rfl)
 (hx:aP (en E) x=some (true,.v (.int k1 l)):=by rfl)(hy:aP (en E) y=some (true,.v (.int k2 c)):=by rfl)(h0:0≤l)(hlc:l≤c)(hm:c≤16777216)
 (h:Reg P r N D B all (i+1) ops ((i,⟨bA [x,y] [(true,.v (.int k1 l)),(true,.v (.int k2 c))],some d,(true,.ref n),[],[],[(n,.rs e 1 (ic k (List.replicate l.toNat 0)))],[n]⟩)::tr) (st ((d,(true,.ref n))::E) ((n,.rs e 1 (ic k (List.replicate l.toNat 0)))::L) (n+1)) K):
 Reg P r N D B all i (⟨some d,.makeSlice t x y,ty,pos,aft,none⟩::ops) tr (st E L n) K:=by
 have hop:(Oper.mk (some d) (.makeSlice t x y) ty pos aft none).op.operands.toList=[x,y]:=rfl;refine Reg.new (es:=[(true,.v (.int k1 l)),(true,.v (.int k2 c))]) (rd:=[]) ho gN ?_ (by simp) (oJ (x:= .row e 1 ((ic k (List.replicate l.toNat 0)).map (List.map LV.sv))) ?_ (fun cx w hx=>e7 hx)) (by rw[hop];exact h);rw[hop];exact⟨_,_,rfl,hx,_,_,rfl,hy,rfl⟩;refine bO (by simp) (by simp) fun md n0 cx H ρ w hok _ _ hnew hv=>?_;rw[hop]at hv;obtain⟨v1,v2⟩:=Vs.two hv;simp only[bD]at v1 v2;obtain⟨hu,inf,z,hi,hzz,hs,hbb,_⟩:=hF.get;have hz0:inf.zero=some (.int k 0):=by rw[hi]at hz;simpa using hz
 have hb2:(inf.bytes:Int)*c≤281474976710656:=by
  have h1:(inf.bytes:Int)*c≤16777216*16777216:=Int.mul_le_mul (by omega) hm (by omega) (by omega);omega
 have hrun:=run_make w t e inf z hu hi hzz k1 k2 l c h0 hlc hb2 (by omega);rw[hz0]at hzz;cases hzz
 rw[hs,Nat.mul_one,rB _ rfl]at hrun;have hfl:((ic k (List.replicate l.toNat 0)).map (List.map LV.sv)).flatten=(List.replicate l.toNat (Value.int k 0)).map LV.v:=by
  rw[j5,tw];simp
 have hln:((ic k (List.replicate l.toNat 0)).map (List.map LV.sv)).length=l.toNat:=by simp[ic]
 obtain⟨cx',t1,hv'⟩:=tc (T:=e) (sz:=1) (w0:=w) (xs:=(ic k (List.replicate l.toNat 0)).map (List.map LV.sv)) (vs:=List.replicate l.toNat (Value.int k 0)) (cells:=(List.replicate c.toNat (Value.int k 0)).toArray) (cap:=c.toNat) hok (hnew n (by simp)) ⟨rfl,rfl,rfl,rfl⟩
  (by simp[ic]) (by rw[hfl];exact DG cx w _) (fun u hu=>by rw[(List.mem_replicate.1 hu).2];rfl) (by rw[hln];omega) (by unfold maxLen;omega) (by simp) (by rw[hln];simp;omega)
 rw[hln]at hv';refine⟨_,_,_,cx',?_,.inl rfl,t1,hv'⟩;simp only[execOp,v1.val,v2.val,Sem.run_bind,hrun];simp
end
end Go.Proofs.YtgkhfpfjokagfaaGreatDoor
namespace Go.Proofs.YtgkhfpfjokagfaaGreatDoor
section
variable{P:Program}{r:Option Nat}{N:Nat}{D:List Nat}{B:bG}{all:Array Oper}{K:List (Nat×Ct)→St→Prop}
variable{i:Nat}{ops:List Oper}{tr:List (Nat×Ct)}{E:List (Nat×bB)}{L:List (Nat×LO)}{n:Nat}{g:Bool}{gn:List (Nat×bB)}
variable{d ty:Nat}{pos:String}{aft:Array Edge}{gd:Option (Nat×Bool)}
theorem dV{y:Nat}{fo:Operand}{args:Array Operand}{ats:Array TypeId}{es:List bB}{lvs:List LV}{Lc Lc1:List (Nat×LO)}{b:Bool}(hc:Yld P y lvs Lc b Lc1)
 (ho:all[i]?=some ⟨some d,.call {callee:= .value fo,args:=args,argTypes:=ats},ty,pos,aft,gd⟩:=by rfl)(hg:GuardOk (en E) all gd g gn:=by first|exact gN|exact gS rfl rfl)(hgt:g=true:=by rfl)
 (hf:aP (en E) fo=some (true,.yld y):=by rfl)
 (hx:args.toList.map (aP (en E))=es.map some:=by rfl)(hes:es.map bD=lvs:=by rfl)(hL:∀k x,hp Lc k=some x→hp L k=some x)
 (h:Reg P r N D B all (i+1) ops ((i,⟨gn++bA (fo::args.toList) ((true,.yld y)::es),some d,(true,.b b),[],Lc,Lc1,[]⟩)::tr) (st ((d,(true,.b b))::E) (Lc1++L) n) K):
 Reg P r N D B all i (⟨some d,.call {callee:= .value fo,args:=args,argTypes:=ats},ty,pos,aft,gd⟩::ops) tr (st E L n) K:=by
 have hl:(Oper.mk (some d) (.call {callee:= .value fo,args:=args,argTypes:=ats}) ty pos aft gd).op.operands.toList=fo::args.toList:=by simp[Op.operands,Go.Call.operands]
 have hop:Opnds (en E) (fo::args.toList) ((true,.yld y)::es):=⟨_,_,rfl,hf,bw hx⟩;subst hgt;refine Reg.cons (c:=⟨gn++bA (fo::args.toList) ((true,.yld y)::es),some d,(true,.b b),[],Lc,Lc1,[]⟩) (fun hN=>?_) ⟨fun p hp'=>by
  rcases List.mem_append.1 hp' with h1|h1
  exact hg.need p h1;exact hop.need p h1,by simp,hL,by simp⟩ ?_
 have:=ft (r:=r) (D:=D) (B:=B) (o:=⟨some d,.call {callee:= .value fo,args:=args,argTypes:=ats},ty,pos,aft,gd⟩) (es:=(true,.yld y)::es) (E:=en E) (out:= .b b) ho hN.dst hg
  (fun _=>by have:=OpC.yld (r:=r) hc (o:=⟨some d,.call {callee:= .value fo,args:=args,argTypes:=ats},ty,pos,aft,gd⟩) rfl rfl;rw[←hes]at this;exact this) (by rw[hl];exact hop) (.inl rfl)
 rw[hl]at this;simpa using this;have:(Ct.app ⟨gn++bA (fo::args.toList) ((true,.yld y)::es),some d,(true,.b b),[],Lc,Lc1,[]⟩ (st E L n))=st ((d,(true,.b b))::E) (Lc1++L) n:=by
  simp only[Ct.app,cX,fL];congr 1;funext k;simp only[Hp.upd,hp,dZ];cases hk:Lc1.lookup k with
  |some x=>rfl
  |none=>
   simp only[];cases hk2:Lc.lookup k with
   |some x=>
    exfalso;have h1:k∈Lc1.map (·.1):=by rw[hc.1];exact List.mem_map.2 ⟨_,dB hk2,rfl⟩
    obtain⟨p,hp',rfl⟩:=List.mem_map.1 h1;have:=bV (l:=Lc1) (by rw[hc.1,hc.2.rng];exact List.nodup_range) (k:=p.1) (v:=p.2) hp';rw[this]at hk;cases hk
   |none=>rfl
  funext k;simp
 rw[this];exact h
end
structure YGo (P:Program) (y m:Nat) (xs:List LV) (C:List (Nat×LO)→Prop) (S:Nat→List (Nat×LO)):Prop where
 keys:∀j,j≤xs.length→(S j).map (·.1)=List.range m
 lt:∀j,j≤xs.length→∀p∈S j,p.2.lt m=true
 hold:∀j,j≤xs.length→C (S j)
 step:∀j (h:j<xs.length),Yld P y [xs[j]] (S j) true (S (j+1))
theorem YGo.keep{P:Program}{y m:Nat}{xs:List LV}{C:List (Nat×LO)→Prop}{S:Nat→List (Nat×LO)}(h:YGo P y m xs C S){j:Nat}(hj:j≤xs.length)(L:List (Nat×LO)):KeepL (hp (S j++L)) (S j):=
 KeepL.app (by rw[h.keys j hj];exact List.nodup_range)
theorem YGo.at_{P:Program}{y m:Nat}{xs:List LV}{C:List (Nat×LO)→Prop}{S:Nat→List (Nat×LO)}(h:YGo P y m xs C S){j:Nat}{x:LV}(hx:xs[j]?=some x):Yld P y [x] (S j) true (S (j+1)):=by
 have hj:=(List.getElem?_eq_some_iff.1 hx);have:=h.step j hj.1;rw[hj.2]at this;exact this
theorem YGo.all{P:Program}{y m:Nat}{xs:List LV}{C:List (Nat×LO)→Prop}{S:Nat→List (Nat×LO)}(h:YGo P y m xs C S){j:Nat}(hj:j≤xs.length):((S j).all fun p=>decide (p.1<m)&&p.2.lt m)=true:=by
 rw[List.all_eq_true];intro p hp';have h1:p.1∈(S j).map (·.1):=List.mem_map.2 ⟨p,hp',rfl⟩;rw[h.keys j hj,List.mem_range]at h1;simp[h1,h.lt j hj p hp']
end Go.Proofs.YtgkhfpfjokagfaaGreatDoor
namespace Go.Proofs.YtgkhfpfjokagfaaGreatDoor
def BH(P:Program)(t:Nat)(zs:List Value)(offs:List (Nat×Nat)):Prop:=(∀w,(zeroValue t).run P w= .ok (.agg zs.toArray) w)∧∃fields,(∀w,(underlying t).run P w= .ok (.struct fields) w)∧
 ∀w,(fields.mapM fun(f:Field)=>(do pure (f.offset,←sizeOf f.type):Sem (Nat×Nat))).run P w= .ok offs.toArray w
section
variable{P:Program}{r:Option Nat}{N:Nat}{D:List Nat}{B:bG}{all:Array Oper}{K:List (Nat×Ct)→St→Prop}
variable{i:Nat}{ops:List Oper}{tr:List (Nat×Ct)}{E:List (Nat×bB)}{L:List (Nat×LO)}{n:Nat}{g:Bool}{gn:List (Nat×bB)}
variable{d ty:Nat}{pos:String}{aft:Array Edge}{gd:Option (Nat×Bool)}
end
end Go.Proofs.YtgkhfpfjokagfaaGreatDoor
namespace Go.Proofs.YtgkhfpfjokagfaaGreatDoor
section
variable{P:Program}{r:Option Nat}{N:Nat}{D:List Nat}{B:bG}{all:Array Oper}{K:List (Nat×Ct)→St→Prop}
variable{i:Nat}{ops:List Oper}{tr:List (Nat×Ct)}{E:List (Nat×bB)}{L:List (Nat×LO)}{n:Nat}{g:Bool}{gn:List (Nat×bB)}
variable{d ty:Nat}{pos:String}{aft:Array Edge}{gd:Option (Nat×Bool)}
theorem dq{T TB sz:Nat}(hF:dO P T sz){x:Operand}{gx:Bool}{o off:Nat}{cs ds:List LV}
 (ho:all[i]?=some ⟨some d,.load T x,ty,pos,aft,gd⟩:=by rfl)(hg:GuardOk (en E) all gd g gn:=by first|exact gN|exact gS rfl rfl)
 (hx:aP (en E) x=some (gx,.ptr o off):=by rfl)(hgx:g=true→gx=true:=by first|exact fun _=>rfl|exact id)(hb:hp L o=some (.box TB cs):=by rfl)(hc:(cs.drop off).take sz=ds:=by rfl)(hl:ds.length=sz:=by rfl)
 (h:Reg P r N D B all (i+1) ops ((i,bK gn [x] [(gx,.ptr o off)] (some d) (g,.agg ds) [(o,.box TB cs)])::tr) (st ((d,(g,.agg ds))::E) L n) K):
 Reg P r N D B all i (⟨some d,.load T x,ty,pos,aft,gd⟩::ops) tr (st E L n) K:=
 Reg.one rfl (fun h=>by
  rw[aE h hgx];refine bm (x:=x) rfl (by simp) fun md n0 cx H ρ w hok hrd hvv=>?_;simp only[V]at hvv;obtain⟨hA,b,hbk,he⟩:=hvv;obtain⟨b',vs,k1,k2,k3⟩:=(hok.ok o _ (hrd o (.box TB cs) (by simp))).2;rw[k1]at hbk;simp only[bk,Option.some.injEq]at hbk;subst hbk;have k4:=(ea sz _ _ (ea off _ _ k3).2).1;rw[hc]at k4;refine⟨.agg ((vs.drop off).take sz).toArray,?_,by simp only[V];exact⟨_,rfl,k4⟩⟩;have hlen:=k4.length;rw[hl]at hlen;have hl2:(loadCells ⟨b',off,none⟩ ((vs.drop off).take sz).length).run P w= .ok ((vs.drop off).take sz).toArray w:=run_loadCells_list (P:=P) w ⟨b',off,none⟩ _ (fun j v hv=>by
   rw[pb];have:vs[off+j]?=some v:=by
    rw[List.getElem?_take]at hv;split at hv;rw[List.getElem?_drop]at hv;exact hv;cases hv
   simp[World.cell?,k2,this])
  rw[hlen]at hl2;simp[execOp,he,Instr.loadAt,Instr.sureAddr,loadVar,hF.1 w,hF.2 w,hl2]) ho hg hx (fun k y hy=>by
   simp only[hp,List.lookup_cons]at hy;split at hy;rename_i hh;simp at hh;cases hy;subst hh;exact hb
   simp at hy) h
end
section
open Go.ChangeShapes Go.WideShapes Go.Deep Go.RowKit Go.ChangeAt
variable{H:Type}{enc:TypeId×Value→H}{P:Program}{w:World}
def um(P:Program):List Field→Nat→Option Nat
 |[],k=>some k
 |f::fs,k=>if f.offset=k then um P fs (k+P.cellsOf f.type)else none
def Rl(w:World)(ss:List SV)(cs:List Value):Prop:=ss.length=cs.length∧∀(j:Nat) (s:SV) (v:Value),ss[j]?=some s→cs[j]?=some v→VS (cv w) w s v∧v.oneCell'=true
theorem Rl.app{a a':List SV}{b b':List Value}(h:Rl w a b)(h':Rl w a' b'):Rl w (a++a') (b++b'):=by
 refine⟨by simp[h.1,h'.1],fun j s v hs hv=>?_⟩;rcases Nat.lt_or_ge j a.length with hj|hj
 rw[List.getElem?_append_left hj]at hs;rw[List.getElem?_append_left (by rw[←h.1];exact hj)]at hv;exact h.2 j s v hs hv;rw[List.getElem?_append_right hj]at hs;rw[List.getElem?_append_right (by rw[←h.1];exact hj),←h.1]at hv;exact h'.2 _ s v hs hv
theorem uY{S:Nat→List SV→Prop}{cs:List Value}:∀(l:List Field) (j k e:Nat),um P l k=some e→(∀i f,l[i]?=some f→∃ss,S (j+i) ss∧Rl w ss ((cs.drop f.offset).take (P.cellsOf f.type)))→
 k≤e∧∃parts:List (List SV),parts.length=l.length∧(∀i p,parts[i]?=some p→S (j+i) p)∧Rl w parts.flatten ((cs.drop k).take (e-k))
 |[],j,k,e,h,_=>by
  simp only[um,Option.some.injEq]at h;subst h;exact⟨Nat.le_refl _,[],rfl,by simp,by simp[Rl]⟩
 |f::l,j,k,e,h,hf=>by
  simp only[um]at h;split at h;rename_i hk;obtain⟨h1,parts,h2,h3,h4⟩:=uY l (j+1) _ e h (fun i f hi=>by
   obtain⟨ss,hs,hr⟩:=hf (i+1) f (by simpa using hi);exact⟨ss,by rw[show j+1+i=j+(i+1)from by omega];exact hs,hr⟩)
  obtain⟨ss,hs,hr⟩:=hf 0 f rfl;refine⟨by omega,ss::parts,by simp[h2],fun i p hp'=>?_,?_⟩;cases i with
  |zero=>simp at hp';subst hp';exact hs
  |succ i=>have:=h3 i p (by simpa using hp');rwa [show j+1+i=j+(i+1)from by omega]at this
  rw[hk]at hr;have:=hr.app h4;rw[List.flatten_cons];have e1:(cs.drop k).take (e-k)=(cs.drop k).take (P.cellsOf f.type)++(cs.drop (k+P.cellsOf f.type)).take (e-(k+P.cellsOf f.type)):=by
   rw[←List.drop_drop,show e-k=P.cellsOf f.type+(e-(k+P.cellsOf f.type))from by omega,List.take_add]
  rw[e1];exact this;cases h
theorem je{t:TypeId}{fs:Array Field}{S:Nat→List SV→Prop}(ht:P.underlying t=some (.struct fs))(hoff:um P fs.toList 0=some (P.cellsOf t))
 (hF:∀j f,fs[j]?=some f→Rd enc P w f.type (S j)):Rd enc P w t (fun ss=>∃parts:List (List SV),parts.length=fs.size∧ss=parts.flatten∧∀j p,parts[j]?=some p→S j p):=fun n cs x hx=>by
 obtain⟨ys,m,_,_,hlen,hyl,hf⟩:=DataW.trod_struct ht hx;obtain⟨_,parts,h1,h2,h3⟩:=uY (w:=w) (S:=S) (cs:=cs) fs.toList 0 0 _ hoff (fun i f hi=>by
  have hfi:fs[i]?=some f:=by simpa using hi
  have hil:i<fs.size:=(Array.getElem?_eq_some_iff.1 hfi).1;have h1:=hf i f hfi;rw[List.getElem?_eq_getElem (by omega)]at h1;obtain⟨ss,hs,hl,hv⟩:=hF i f hfi m _ _ h1;exact⟨ss,by rw[Nat.zero_add];exact hs,hl,hv⟩)
 rw[List.drop_zero,Nat.sub_zero,←hlen,List.take_length]at h3;exact⟨parts.flatten,⟨parts,by simpa using h1,rfl,fun j p hp'=>by have:=h2 j p hp';rwa [Nat.zero_add]at this⟩,h3.1,h3.2⟩
end
end Go.Proofs.YtgkhfpfjokagfaaGreatDoor
namespace Go.Proofs.YtgkhfpfjokagfaaGreatDoor
structure YG (P:Program) (y m:Nat) (xs:List (List LV)) (S:Nat→List (Nat×LO)):Prop where
 keys:∀j,j≤xs.length→(S j).map (·.1)=List.range m
 lt:∀j,j≤xs.length→∀p∈S j,p.2.lt m=true
 step:∀j (h:j<xs.length),Yld P y xs[j] (S j) true (S (j+1))
theorem YG.keep{P:Program}{y m:Nat}{xs:List (List LV)}{S:Nat→List (Nat×LO)}(h:YG P y m xs S){j:Nat}(hj:j≤xs.length)(L:List (Nat×LO)):KeepL (hp (S j++L)) (S j):=
 KeepL.app (by rw[h.keys j hj];exact List.nodup_range)
theorem YG.at_{P:Program}{y m:Nat}{xs:List (List LV)}{S:Nat→List (Nat×LO)}(h:YG P y m xs S){j:Nat}{x:List LV}(hx:xs[j]?=some x):Yld P y x (S j) true (S (j+1)):=by
 have hj:=(List.getElem?_eq_some_iff.1 hx);have:=h.step j hj.1;rw[hj.2]at this;exact this
end Go.Proofs.YtgkhfpfjokagfaaGreatDoor
namespace Go.Proofs.YtgkhfpfjokagfaaGreatDoor
section
variable{P:Program}{r:Option Nat}{N:Nat}{D:List Nat}{B:bG}{all:Array Oper}{K:List (Nat×Ct)→St→Prop}
variable{i:Nat}{ops:List Oper}{tr:List (Nat×Ct)}{E:List (Nat×bB)}{L:List (Nat×LO)}{n:Nat}{g:Bool}{gn:List (Nat×bB)}
variable{d ty:Nat}{pos:String}{aft:Array Edge}{gd:Option (Nat×Bool)}
theorem Ft{op:BinOp}{t yt:Nat}{x y:Operand}{gx gy:Bool}{p:Value→Prop}{b v:Value}(hv:∀a,p a→∀w,(do eqGuard op t x y a b;binOp op t a b:Sem Value).run P w= .ok v w)
 (ho:all[i]?=some ⟨some d,.binOp op t x y yt,ty,pos,aft,gd⟩:=by rfl)(hg:GuardOk (en E) all gd g gn:=by first|exact gN|exact gS rfl rfl)
 (hx:aP (en E) x=some (gx,.pv p):=by rfl)(hy:aP (en E) y=some (gy,.v b):=by rfl)
 (hgx:g=true→gx=true:=by first|exact fun _=>rfl|exact id)(hgy:g=true→gy=true:=by first|exact fun _=>rfl|exact id)
 (h:Reg P r N D B all (i+1) ops ((i,bK gn [x,y] [(gx,.pv p),(gy,.v b)] (some d) (g,.v v) [])::tr) (st ((d,(g,.v v))::E) L n) K):
 Reg P r N D B all i (⟨some d,.binOp op t x y yt,ty,pos,aft,gd⟩::ops) tr (st E L n) K:=
 Reg.two rfl (fun h=>by
  rw[aE h hgx,aE h hgy];refine bj (x:=x) (y:=y) rfl (by simp) fun md n0 cx H ρ w _ _ v1 v2=>?_;have e1:p (ρ x):=(by simpa only[V]using v1:p (ρ x)∧_).1;refine⟨v,?_,aZ⟩;have:=hv _ e1 w;rw[←v2.val]at this;simp only[execOp];rw[Sem.run_bind,this];rfl) ho hg hx hy (by simp) h
theorem FJ{t:Nat}{x:Operand}{gx:Bool}{k:IntKind}{a:Int}(ho:all[i]?=some ⟨some d,.unOp .neg t x,ty,pos,aft,gd⟩:=by rfl)
 (hg:GuardOk (en E) all gd g gn:=by first|exact gN|exact gS rfl rfl)
 (hx:aP (en E) x=some (gx,.v (.int k a)):=by rfl)(hgx:g=true→gx=true:=by first|exact fun _=>rfl|exact id)
 (h:Reg P r N D B all (i+1) ops ((i,bK gn [x] [(gx,.v (.int k a))] (some d) (g,.v (.int k (k.wrap (-a)))) [])::tr) (st ((d,(g,.v (.int k (k.wrap (-a)))))::E) L n) K):
 Reg P r N D B all i (⟨some d,.unOp .neg t x,ty,pos,aft,gd⟩::ops) tr (st E L n) K:=
 Reg.one rfl (fun h=>by
  rw[aE h hgx];refine bm (x:=x) rfl (by simp) fun md n0 cx H ρ w _ _ hv=>?_;have e:=hv.val;exact⟨.int k (k.wrap (-a)),by simp[execOp,Op.unary,Op.intArith,e],aZ⟩) ho hg hx (by simp) h
theorem uO(t:Nat)(x y:Operand)(k:IntKind)(a b:Int)(hb:b≠0)(hw:k.wrap (Int.tdiv a b)=Int.tdiv a b):∀w,(do eqGuard .quo t x y (.int k a) (.int k b);binOp .quo t (.int k a) (.int k b):Sem Value).run P w= .ok (.int k (Int.tdiv a b)) w:=
 mX .quo rfl t x y k a b fun w=>by simp[binOp,Op.intDiv,hb,hw]
theorem BY(t:Nat)(x y:Operand)(k:IntKind)(a b:Int)(hb:b≠0):∀w,(do eqGuard .rem t x y (.int k a) (.int k b);binOp .rem t (.int k a) (.int k b):Sem Value).run P w= .ok (.int k (Int.tmod a b)) w:=
 mX .rem rfl t x y k a b fun w=>by simp[binOp,Op.intDiv,hb]
end
theorem Jk{cx:Cx}{w:World}{p:Value→Prop}{v:Value}(h:p v)(h1:v.oneCell'=true):V cx w (.pv p) v:=by simp only[V];exact⟨h,h1⟩
def I6(x:Value):Prop:=∃t p,x= .iface t p
theorem B4{P:Program}(d:Nat){t:Nat}{ms:Array (String×TypeId)}(ht:P.underlying t=some (.interface ms))(w:World):(Op.equalIn (d+1) t .nilIface .nilIface).run P w= .ok true w:=by
 simp[Op.equalIn,run_underlying ht]
theorem B3{P:Program}(d:Nat){t u:Nat}{p:Value}{ms:Array (String×TypeId)}(ht:P.underlying t=some (.interface ms))(w:World):(Op.equalIn (d+1) t (.iface u p) .nilIface).run P w= .ok false w:=by
 simp[Op.equalIn,run_underlying ht]
theorem nb{P:Program}{t:Nat}{ms:Array (String×TypeId)}(ht:P.underlying t=some (.interface ms))(x:Operand):∀w,(do eqGuard .neq t x (.const .nilIface) .nilIface .nilIface;binOp .neq t .nilIface .nilIface:Sem Value).run P w= .ok (.bool false) w:=fun w=>by
 have h:(Op.equal t .nilIface .nilIface).run P w= .ok true w:=B4 9999 ht w;simp[binOp,eqGuard,h]
theorem zy{P:Program}{t:Nat}{ms:Array (String×TypeId)}(ht:P.underlying t=some (.interface ms))(x:Operand):∀a,I6 a→∀w,(do eqGuard .neq t x (.const .nilIface) a .nilIface;binOp .neq t a .nilIface:Sem Value).run P w= .ok (.bool true) w:=fun a ⟨u,p,h⟩ w=>by
 subst h;have h:(Op.equal t (.iface u p) .nilIface).run P w= .ok false w:=B3 9999 ht w;simp[binOp,eqGuard,h]
end Go.Proofs.YtgkhfpfjokagfaaGreatDoor
namespace Go.Proofs.YtgkhfpfjokagfaaGreatDoor
section
variable{P:Program}{r:Option Nat}{N:Nat}{D:List Nat}{B:bG}{all:Array Oper}{K:List (Nat×Ct)→St→Prop}
variable{i:Nat}{ops:List Oper}{tr:List (Nat×Ct)}{E:List (Nat×bB)}{L:List (Nat×LO)}{n:Nat}{g:Bool}{gn:List (Nat×bB)}
variable{d ty:Nat}{pos:String}{aft:Array Edge}{gd:Option (Nat×Bool)}
end
end Go.Proofs.YtgkhfpfjokagfaaGreatDoor
namespace Go.Proofs.YtgkhfpfjokagfaaGreatDoor
theorem mv(P:Program)(g off:Nat)(t:TypeId):∀(vs:List Value) (i:Nat) (pre mid post:List Value) (w:World),w.heap[g]?=some (.cells (pre++(mid++post)).toArray t (0,0))→pre.length=off+i→mid.length=vs.length→(∀v∈vs,v.oneCell'=true)→
 ∃w',(storeCells ⟨g,off,none⟩ vs i).run P w= .ok () w'∧w'.heap[g]?=some (.cells (pre++(vs++post)).toArray t (0,0))∧(∀k,k≠g→w'.heap[k]?=w.heap[k]?)∧w'.heap.size=w.heap.size∧w'.os=w.os∧w'.tape=w.tape∧w'.output=w.output
 |[],i,pre,mid,post,w,hg,_,hm,_=>by
  have:mid=[]:=List.eq_nil_of_length_eq_zero (by simpa using hm);subst this;exact⟨w,by simp[storeCells],by simpa using hg,fun _ _=>rfl,rfl,rfl,rfl,rfl⟩
 |v::vs,i,pre,mid,post,w,hg,hp,hm,h1=>by
  obtain⟨m,mid',rfl⟩:∃m mid',mid=m::mid':=by
   cases mid with
   |nil=>simp at hm
   |cons m mid'=>exact⟨m,mid',rfl⟩
  have hone:=h1 v (by simp);have hcell:w.cell? ⟨g,off+i,none⟩=some m:=by
   rw[←hp];simp[World.cell?,hg]
  have hfr:w.frozen? ⟨g,off+i,none⟩=false:=by simp[World.frozen?,hg]
  have hst:=run_store P w ⟨g,off+i,none⟩ v .plain hone;rw[hcell]at hst;simp only[hfr,Bool.false_eq_true,if_false]at hst;have hw':(w.setCell ⟨g,off+i,none⟩ v).heap[g]?=some (.cells ((pre++[v])++(mid'++post)).toArray t (0,0)):=by
   simp only[World.setCell,Array.getElem?_modify,if_true,hg,Option.map_some];rw[←hp];simp
  obtain⟨w2,k1,k2,k3,k4,k5⟩:=mv P g off t vs (i+1) (pre++[v]) mid' post (w.setCell ⟨g,off+i,none⟩ v) hw' (by simp[hp];omega) (by simpa using hm) (fun u hu=>h1 u (by simp[hu]));refine⟨w2,?_,by rw[k2];simp,fun k hk=>?_,?_,?_⟩;simp only[storeCells,Sem.run_bind,pb,hst,Result.andThen_ok,k1];rw[k3 k hk];simp only[World.setCell,Array.getElem?_modify,if_neg (Ne.symm hk)];rw[k4];simp[World.setCell];obtain⟨a,b,c⟩:=k5;exact⟨by rw[a];rfl,by rw[b];rfl,by rw[c];rfl⟩
section
variable{P:Program}{r:Option Nat}{N:Nat}{D:List Nat}{B:bG}{all:Array Oper}{K:List (Nat×Ct)→St→Prop}
variable{i:Nat}{ops:List Oper}{tr:List (Nat×Ct)}{E:List (Nat×bB)}{L:List (Nat×LO)}{n:Nat}{g:Bool}{gn:List (Nat×bB)}
variable{d ty:Nat}{pos:String}{aft:Array Edge}{gd:Option (Nat×Bool)}
theorem Dl{T TB sz:Nat}(hF:dO P T sz){x y:Operand}{o off:Nat}{cs ds es:List LV}
 (ho:all[i]?=some ⟨none,.store T x y,ty,pos,aft,none⟩:=by rfl)
 (hx:aP (en E) x=some (true,.ptr o off):=by rfl)(hy:aP (en E) y=some (true,.agg ds):=by rfl)(h1:ds.all LV.one=true:=by rfl)(hb:hp L o=some (.box TB cs):=by rfl)(hlt:off+sz≤cs.length:=by exact Nat.le_of_ble_eq_true rfl)(hlt':ds.length=sz:=by rfl)
 (hes:cs.take off++(ds++cs.drop (off+sz))=es:=by rfl)
 (h:Reg P r N D B all (i+1) ops ((i,⟨bA [x,y] [(true,.ptr o off),(true,.agg ds)],none,(true,.v undef),[],[(o,.box TB cs)],[(o,.box TB es)],[]⟩)::tr) (st E ((o,.box TB es)::L) n) K):
 Reg P r N D B all i (⟨none,.store T x y,ty,pos,aft,none⟩::ops) tr (st E L n) K:=
 Reg.set (es:=[(true,.ptr o off),(true,.agg ds)]) (rd:=[]) ho gN ⟨_,_,rfl,hx,_,_,rfl,hy,rfl⟩ (by simp) hb (bO (by simp) (by simp) fun md n0 cx H ρ w hok _ hHi _ hv=>by
  obtain⟨v1,v2⟩:=Vs.two hv;simp only[bD]at v1 v2;have hob:=hHi o (.box TB cs) (by simp);obtain⟨hA,b',vs,k1,k2,k3⟩:=hok.ok o _ hob;simp only[V]at v1 v2;obtain⟨_,b,hbk,he⟩:=v1;obtain⟨us,hu,hus⟩:=v2;have hbk':=hbk;rw[k1]at hbk;simp only[bk,Option.some.injEq]at hbk;subst hbk;have hul:us.length=sz:=hus.length.trans hlt';have hvl:vs.length=cs.length:=k3.length;have hsplit:vs=vs.take off++((vs.drop off).take sz++vs.drop (off+sz)):=by
   rw[←List.drop_drop,List.take_append_drop,List.take_append_drop]
  rw[hsplit]at k2;obtain⟨w',q1,q2,q3,q4,q5,q6,q7⟩:=mv P b' off TB us 0 (vs.take off) ((vs.drop off).take sz) (vs.drop (off+sz)) w k2 (by rw[List.length_take];omega) (by rw[List.length_take,List.length_drop];omega) (Vs.ones h1 hus);refine⟨.skip,undef,w',cx,?_,.inr ⟨rfl,rfl⟩,Tr.set hok hob hbk' ⟨q5,q6,q7⟩ q4 q3 (fun hext=>?_),aZ⟩;simp[execOp,he,hu,Instr.storeAt,Instr.sureAddr,storeVar,Value.cells,hF.2 w,hul,q1];refine⟨b',_,k1,q2,?_⟩;rw[←hes];have hsp:=ea off _ _ k3;have hsp2:=ea (off+sz) _ _ k3;exact Vs.append (Vs.mono (CxLe.refl _) hext _ _ hsp.1) (Vs.append (Vs.mono (CxLe.refl _) hext _ _ hus) (Vs.mono (CxLe.refl _) hext _ _ hsp2.2))) h
end
end Go.Proofs.YtgkhfpfjokagfaaGreatDoor
namespace Go.Proofs.YtgkhfpfjokagfaaGreatDoor
theorem Reg.n0{P:Program}{r:Option Nat}{N:Nat}{D:List Nat}{B:bG}{Ψ:Exit→Act→World→Prop}{all:Array Oper}{ops:List Oper}{todo:List Item}{i:Nat}{tr:List (Nat×Ct)}{S:St}(h:LGo P r N D B Ψ todo S):
 Reg P r N D B all i [] tr S (fun tr S'=>(false=true→P.follows .mixedOrders=true∧o8 ops.toArray=true∧fY ops.toArray tr=true)∧LGo P r N D B Ψ todo S'):=Reg.nil ⟨fun h=>(by cases h),h⟩
end Go.Proofs.YtgkhfpfjokagfaaGreatDoor
namespace Go.Proofs.YtgkhfpfjokagfaaGreatDoor
section
variable{P:Program}{r:Option Nat}{N:Nat}{D:List Nat}{B:bG}{all:Array Oper}{K:List (Nat×Ct)→St→Prop}
variable{i:Nat}{ops:List Oper}{tr:List (Nat×Ct)}{E:List (Nat×bB)}{L:List (Nat×LO)}{n:Nat}{g:Bool}{gn:List (Nat×bB)}
variable{d ty:Nat}{pos:String}{aft:Array Edge}{gd:Option (Nat×Bool)}
theorem V.ptrV{cx:Cx}{w:World}{o off:Nat}{x:Value}(h:V cx w (.ptr o off) x):∃b,x= .pointer (some ⟨b,off,none⟩):=by
 simp only[V]at h;obtain⟨_,b,_,h⟩:=h;exact⟨b,h⟩
theorem aH{x:Operand}{gx:Bool}{o off:Nat}(ho:all[i]?=some ⟨some d,.nilCheck x,ty,pos,aft,gd⟩:=by rfl)
 (hg:GuardOk (en E) all gd g gn:=by first|exact gN|exact gS rfl rfl)
 (hx:aP (en E) x=some (gx,.ptr o off):=by rfl)(hgx:g=true→gx=true:=by first|exact fun _=>rfl|exact id)
 (h:Reg P r N D B all (i+1) ops ((i,bK gn [x] [(gx,.ptr o off)] (some d) (g,.ptr o off) [])::tr) (st ((d,(g,.ptr o off))::E) L n) K):
 Reg P r N D B all i (⟨some d,.nilCheck x,ty,pos,aft,gd⟩::ops) tr (st E L n) K:=
 Reg.one rfl (fun h=>by
  rw[aE h hgx];refine bm (x:=x) rfl (by simp) fun md n0 cx H ρ w _ _ hv=>?_;obtain⟨b,e⟩:=hv.ptrV;exact⟨ρ x,by simp[execOp,e],hv⟩) ho hg hx (by simp) h
theorem xL{t yt:Nat}{x:Operand}{gx:Bool}{o off:Nat}(ho:all[i]?=some ⟨some d,.binOp .eql t x (.const (.pointer none)) yt,ty,pos,aft,gd⟩:=by rfl)
 (hT:∀a w,(do eqGuard .eql t x (.const (.pointer none)) (.pointer (some a)) (.pointer none);binOp .eql t (.pointer (some a)) (.pointer none):Sem Value).run P w= .ok (.bool false) w)
 (hg:GuardOk (en E) all gd g gn:=by first|exact gN|exact gS rfl rfl)
 (hx:aP (en E) x=some (gx,.ptr o off):=by rfl)(hgx:g=true→gx=true:=by first|exact fun _=>rfl|exact id)
 (h:Reg P r N D B all (i+1) ops ((i,bK gn [x,.const (.pointer none)] [(gx,.ptr o off),(true,cLV (.pointer none))] (some d) (g,.b false) [])::tr) (st ((d,(g,.b false))::E) L n) K):
 Reg P r N D B all i (⟨some d,.binOp .eql t x (.const (.pointer none)) yt,ty,pos,aft,gd⟩::ops) tr (st E L n) K:=
 Reg.two rfl (fun h=>by
  rw[aE h hgx];refine bj (x:=x) (y:= .const (.pointer none)) rfl (by simp) fun md n0 cx H ρ w _ _ v1 v2=>?_;obtain⟨b,e⟩:=v1.ptrV;have e2:ρ (.const (.pointer none))= .pointer none:=by
   have v2':V cx w (.v (.pointer none)) (ρ (.const (.pointer none))):=by simpa[bD,cLV]using v2
   exact v2'.val
  refine⟨.bool false,?_,aZ⟩;have:=hT ⟨b,off,none⟩ w;rw[←e,←e2]at this;simp only[execOp];rw[Sem.run_bind];rw[e2]at this⊢;rw[this];rfl) ho hg hx (by rfl) (by simp) h
theorem wq{t yt:Nat}{x y:Operand}{gx gy:Bool}{o off:Nat}(ho:all[i]?=some ⟨some d,.binOp .neq t x y yt,ty,pos,aft,gd⟩:=by rfl)
 (hT:∀a:Addr,a.off=off→∀w,(do eqGuard .neq t x y (.pointer (some a)) (.pointer (some a));binOp .neq t (.pointer (some a)) (.pointer (some a)):Sem Value).run P w= .ok (.bool false) w)
 (hg:GuardOk (en E) all gd g gn:=by first|exact gN|exact gS rfl rfl)
 (hx:aP (en E) x=some (gx,.ptr o off):=by rfl)(hy:aP (en E) y=some (gy,.ptr o off):=by rfl)
 (hgx:g=true→gx=true:=by first|exact fun _=>rfl|exact id)(hgy:g=true→gy=true:=by first|exact fun _=>rfl|exact id)
 (h:Reg P r N D B all (i+1) ops ((i,bK gn [x,y] [(gx,.ptr o off),(gy,.ptr o off)] (some d) (g,.b false) [])::tr) (st ((d,(g,.b false))::E) L n) K):
 Reg P r N D B all i (⟨some d,.binOp .neq t x y yt,ty,pos,aft,gd⟩::ops) tr (st E L n) K:=
 Reg.two rfl (fun h=>by
  rw[aE h hgx,aE h hgy];refine bj (x:=x) (y:=y) rfl (by simp) fun md n0 cx H ρ w _ _ v1 v2=>?_;simp only[V]at v1 v2;obtain⟨_,b,hb,e1⟩:=v1;obtain⟨_,b',hb',e2⟩:=v2;rw[hb]at hb';cases hb'
  refine⟨.bool false,?_,aZ⟩;have:=hT ⟨b,off,none⟩ rfl w;simp only[execOp,e1,e2];rw[Sem.run_bind,this];rfl) ho hg hx hy (by simp) h
theorem sG{s t T:Nat}{x:Operand}{gx:Bool}{o off:Nat}{cs:List LV}(ho:all[i]?=some ⟨some d,.convert s t x,ty,pos,aft,gd⟩:=by rfl)
 (hT:∀b w,w.shape? b=some (T,cs.length)→(convert s t (.pointer (some ⟨b,off,none⟩))).run P w= .ok (.pointer (some ⟨b,off,none⟩)) w)
 (hg:GuardOk (en E) all gd g gn:=by first|exact gN|exact gS rfl rfl)
 (hx:aP (en E) x=some (gx,.ptr o off):=by rfl)(hgx:g=true→gx=true:=by first|exact fun _=>rfl|exact id)(hb:hp L o=some (.box T cs):=by rfl)
 (h:Reg P r N D B all (i+1) ops ((i,bK gn [x] [(gx,.ptr o off)] (some d) (g,.ptr o off) [(o,.box T cs)])::tr) (st ((d,(g,.ptr o off))::E) L n) K):
 Reg P r N D B all i (⟨some d,.convert s t x,ty,pos,aft,gd⟩::ops) tr (st E L n) K:=
 Reg.one rfl (fun h=>by
  rw[aE h hgx];refine bm (x:=x) rfl (by simp) fun md n0 cx H ρ w hok hrd hv=>?_;obtain⟨_,b,vs,k1,k2,k3⟩:=hok.ok o _ (hrd o (.box T cs) (by simp));have hv':=hv;simp only[V]at hv';obtain⟨_,b',hb',e⟩:=hv';rw[k1]at hb';simp only[bk,Option.some.injEq]at hb';subst hb';refine⟨ρ x,?_,hv⟩;have:=hT b w (by simp[World.shape?,k2,k3.length]);simp only[execOp,e];rw[Sem.run_bind,this];rfl) ho hg hx (jB hb) h
theorem xM{f:FuncId}{x:Operand}{ats:Array TypeId}{gx:Bool}{o off:Nat}(hf:∀a w,(callFunc f #[.pointer (some a)]).run P w= .ok (.value (.pointer (some a))) w)
 (ho:all[i]?=some ⟨some d,.call {callee:= .value (.func f),args:=#[x],argTypes:=ats},ty,pos,aft,gd⟩:=by rfl)
 (hg:GuardOk (en E) all gd g gn:=by first|exact gN|exact gS rfl rfl)
 (hx:aP (en E) x=some (gx,.ptr o off):=by rfl)(hgx:g=true→gx=true:=by first|exact fun _=>rfl|exact id)
 (h:Reg P r N D B all (i+1) ops ((i,bK gn [.func f,x] [(true,.fn (.func f) [] []),(gx,.ptr o off)] (some d) (g,.ptr o off) [])::tr) (st ((d,(g,.ptr o off))::E) L n) K):
 Reg P r N D B all i (⟨some d,.call {callee:= .value (.func f),args:=#[x],argTypes:=ats},ty,pos,aft,gd⟩::ops) tr (st E L n) K:=
 Reg.two (x:= .func f) (y:=x) (by simp[Op.operands,Go.Call.operands]) (fun h=>by
  rw[aE h hgx];refine bj (x:= .func f) (y:=x) (by simp[Op.operands,Go.Call.operands]) (by simp) fun md n0 cx H ρ w _ _ v1 v2=>?_;obtain⟨b,e⟩:=v2.ptrV;have e1:ρ (.func f)= .func (.func f) #[] #[]:=by
   have v1':V cx w (.fn (.func f) [] []) (ρ (.func f)):=by simpa[bD]using v1
   simp only[V,Vs]at v1';obtain⟨us,vs,h1,rfl,rfl⟩:=v1';exact h1
  refine⟨ρ x,?_,v2⟩;have:=hf ⟨b,off,none⟩ w;simp only[execOp,resolve,e1,Deferred.ofValue,Sem.run_bind,Sem.run_pure,Result.andThen_ok,invoke];simp[e,this]) ho hg (by rfl) hx (by simp) h
theorem wo{T:Nat}{x:Operand}{gx:Bool}{o e:Nat}{ys:List (List SV)}(hne:ys≠[])
 (ho:all[i]?=some ⟨some d,.call {callee:= .builtin .unsafeSliceData,args:=#[x],argTypes:=#[T]},ty,pos,aft,gd⟩:=by rfl)(hg:GuardOk (en E) all gd g gn:=by first|exact gN|exact gS rfl rfl)
 (hx:aP (en E) x=some (gx,.ref o):=by rfl)(hgx:g=true→gx=true:=by first|exact fun _=>rfl|exact id)(hb:hp L o=some (.rs e 1 ys):=by rfl)
 (h:Reg P r N D B all (i+1) ops ((i,bK gn [x] [(gx,.ref o)] (some d) (g,.ptr o 0) [(o,.rs e 1 ys)])::tr) (st ((d,(g,.ptr o 0))::E) L n) K):
 Reg P r N D B all i (⟨some d,.call {callee:= .builtin .unsafeSliceData,args:=#[x],argTypes:=#[T]},ty,pos,aft,gd⟩::ops) tr (st E L n) K:=
 Reg.one rfl (fun h=>by
  rw[aE h hgx];refine bm (x:=x) rfl (by simp) fun md n0 cx H ρ w hok hrd hvv=>?_;have hv:=hvv;simp only[V]at hv;obtain⟨hA,hv1,_⟩:=hv;obtain⟨_,_,vs,hown,_⟩:=hok.ok o _ (hrd o (.rs e 1 ys) (by simp));have hl:ys.length≠0:=by simpa using hne
  rcases hown.2 with⟨e1,e2⟩|⟨gb,cap,cur,e1,_,_,hle,_⟩
  omega;have hc0:cap≠0:=by omega
  refine⟨.pointer (some ⟨gb,0,none⟩),?_,by simp only[V];exact⟨hA,gb,by rw[e1];rfl,rfl⟩⟩;rw[e1]at hv1;have hr:=Lib.run_unsafeSliceData_row (P:=P) (w:=w) #[T] ty ⟨gb,0,none⟩ ys.length cap hc0;simp only[execOp,resolve,invoke,builtin,Sem.run_bind,Sem.run_pure,Result.andThen_ok,List.map_toArray,List.map_cons,List.map_nil,hv1];simp[hr]) ho hg hx (jB hb) h
theorem wm{pt it e:Nat}{x y:Operand}{o:Nat}{l:List UInt8}(hp':P.underlying pt=some (.pointer e))(hc:P.cellsOf e=1)(hne:l≠[])(hmax:l.length≤100000000)
 (ho:all[i]?=some ⟨some d,.call {callee:= .builtin .unsafeString,args:=#[x,y],argTypes:=#[pt,it]},ty,pos,aft,none⟩:=by rfl)
 (hx:aP (en E) x=some (true,.ptr o 0):=by rfl)(hy:aP (en E) y=some (true,.i l.length):=by rfl)(hb:hp L o=some (.rs e 1 (aL l)):=by rfl)
 (h:Reg P r N D B all (i+1) ops ((i,⟨bA [x,y] [(true,.ptr o 0),(true,.i l.length)],some d,(true,.t l),[],[(o,.rs e 1 (aL l))],[],[]⟩)::tr) (st ((d,(true,.t l))::E) (jA L [(o,.rs e 1 (aL l))] []) n) K):
 Reg P r N D B all i (⟨some d,.call {callee:= .builtin .unsafeString,args:=#[x,y],argTypes:=#[pt,it]},ty,pos,aft,none⟩::ops) tr (st E L n) K:=by
 refine gM (m:=0) (es:=[(true,.ptr o 0),(true,.i l.length)]) (rd:=[]) (Hi:=[(o,.rs e 1 (aL l))]) (Ho:=[]) (out:= .t l) ho gN ⟨_,_,rfl,hx,_,_,rfl,hy,rfl⟩ (by simp) (fun k z hz=>?_) (bO (by simp) (by simp) fun md n0 cx H ρ w hok _ hHi _ hv=>?_) h;simp only[hp,List.lookup_cons]at hz;split at hz;rename_i hh;simp at hh;cases hz;subst hh;exact hb
 simp at hz;have hop:(Oper.mk (some d) (.call {callee:= .builtin .unsafeString,args:=#[x,y],argTypes:=#[pt,it]}) ty pos aft none).op.operands.toList=[x,y]:=rfl;rw[hop]at hv;obtain⟨v1,v2⟩:=Vs.two hv;simp only[bD]at v1 v2;have hob:=hHi o (.rs e 1 (aL l)) (by simp);obtain⟨hA,_,vs,hown,hvs,_⟩:=hok.ok o _ hob;have hll:(aL l).length=l.length:=ba l;have hl0:l.length≠0:=by simpa using hne
 rcases hown.2 with⟨e1,e2⟩|⟨gb,cap,cur,e1,_,hg,hle,hmx,hsz,htk⟩
 omega;have hbk:bk (cx.loc o)=some gb:=by rw[e1];rfl
 simp only[V]at v1;obtain⟨_,b',hb',ex⟩:=v1;rw[hbk]at hb';cases hb'
 have ey:=v2.val;have hcells:∀(j:Nat) (c:UInt8),l[j]?=some c→w.cell? ((⟨gb,0,none⟩:Addr).add j)=some (.int .u8 c.toNat):=by
  intro j c hj;rw[pb,Nat.zero_add];have hlt:=(List.getElem?_eq_some_iff.1 hj).1;have hfl:((aL l).flatten.map LV.sv)[j]?=some (.v (.int .u8 c.toNat)):=by
   rw[oI,List.map_map,List.getElem?_map,hj];rfl
  obtain⟨v,k1,k2⟩:=Vs.get hvs hfl;have k3:=k2.val;subst k3;have:cur.toList[j]?=some (.int .u8 c.toNat):=by
   rw[←htk,List.getElem?_take]at k1;split at k1;exact k1;cases k1
  simp only[World.cell?,hg];simpa using this
 have hrun:=Lib.run_unsafeString_row (P:=P) (w:=w) pt it ty e hp' hc gb cur.size (by simp[World.shape?,hg]) l hne (by rw[hsz];omega) (by omega) hcells;have hold:∀k,k≠gb→(w.freeze ⟨gb,0,none⟩ l.length).heap[k]?=w.heap[k]?:=fun k hk=>by
  unfold World.freeze;rw[if_neg hl0];simp only[Array.getElem?_modify,if_neg (Ne.symm hk)]
 have hsize:(w.freeze ⟨gb,0,none⟩ l.length).heap.size=w.heap.size:=by
  unfold World.freeze;rw[if_neg hl0];simp
 obtain⟨hpr,hlt,hmd⟩:=hok.own o _ gb hob (.inl hbk);have hblk:cf cx (hp [(o,LO.rs e 1 (aL l))]) gb:=⟨o,LO.rs e 1 (aL l),by simp,.inl hbk⟩;have hext:Ext cx.pr w cx.pr (w.freeze ⟨gb,0,none⟩ l.length):=fun k off hk=>⟨hk,by
  have hkb:k≠gb:=by rintro rfl;omega
  simp only[World.cell?,hold k hkb]⟩
 refine⟨.value (.string ⟨l.toArray⟩),.string ⟨l.toArray⟩,w.freeze ⟨gb,0,none⟩ l.length,cx,?_,.inl rfl,?_,aZ⟩;simp only[execOp,resolve,invoke,builtin,Sem.run_bind,Sem.run_pure,Result.andThen_ok,List.map_toArray,List.map_cons,List.map_nil,ex,ey];rw[hrun];rfl
 ·refine⟨CxLe.refl _,fun k=>by simp,⟨?_,?_,?_,by omega,fun k _ hk=>hold k (by rintro rfl;exact hk hblk),fun _ _ _=>rfl,hext⟩,⟨fun k z hz=>by simp at hz,fun k z b hz=>by simp at hz,fun k k' z z' b _ hz=>by simp at hz,fun b hb=>by have:=hok.lim b hb;omega⟩,fun _ _ _=>rfl⟩;all_goals (unfold World.freeze;rw[if_neg hl0])
end
end Go.Proofs.YtgkhfpfjokagfaaGreatDoor
namespace Go.Proofs.YtgkhfpfjokagfaaGreatDoor
def eF:Nat→List (Value×Value)→List MapEntry
 |_,[]=>[]
 |k,(a,v)::l=>{key:=a,val:=v,born:=k}::eF (k+1) l
section
variable{α:Type}[DecidableEq α]
def lQ(enc:α→Value)(l:List (α×Value)):List (Value×Value):=l.map fun p=>(enc p.1,p.2)
def bW(enc:α→Value)(l:List (α×Value)):Obj:= .map (eF 0 (lQ enc l)).toArray l.length
def oQ(a:α):List (α×Value)→Nat→Option (Nat×Value)
 |[],_=>none
 |(b,u)::l,k=>if a=b then some (k,u)else oQ a l (k+1)
def pe(a:α):List (α×Value)→Option Value
 |[]=>none
 |(b,u)::l=>if a=b then some u else pe a l
def jI(a:α)(v:Value):List (α×Value)→List (α×Value)
 |[]=>[(a,v)]
 |(b,u)::l=>if a=b then(b,v)::l else(b,u)::jI a v l
theorem uU(a:α):∀(l:List (α×Value)) (k:Nat),(oQ a l k).map (·.2)=pe a l
 |[],_=>rfl
 |(b,u)::l,k=>by
  rw[oQ,pe];split;rfl;exact uU a l (k+1)
theorem yq(enc:α→Value)(a:α)(v:Value):∀(l:List (α×Value)) (k i:Nat) (u:Value),oQ a l k=some (i,u)→
 k≤i∧((eF k (lQ enc l))[i-k]?).map (·.key)=some (enc a)∧(eF k (lQ enc l)).modify (i-k) (fun e=>{e with key:=enc a,val:=v})=eF k (lQ enc (jI a v l))∧(jI a v l).length=l.length
 |[],_,_,_,h=>by cases h
 |(b,u0)::l,k,i,u,h=>by
  rw[oQ]at h;split at h;rename_i hab;subst hab;simp only[Option.some.injEq,Prod.mk.injEq]at h;obtain⟨rfl,rfl⟩:=h;rw[jI,if_pos rfl,Nat.sub_self];exact⟨Nat.le_refl _,rfl,rfl,rfl⟩;rename_i hab;obtain⟨h1,h2,h3,h4⟩:=yq enc a v l (k+1) i u h;rw[jI,if_neg hab,show i-k=(i-(k+1))+1 from by omega];refine⟨by omega,?_,?_,by rw[List.length_cons,List.length_cons,h4]⟩;simpa[lQ,eF]using h2;simp only[lQ,List.map_cons,eF,List.modify_succ_cons];exact congrArg _ h3
theorem rW(enc:α→Value)(a:α)(v:Value):∀(l:List (α×Value)) (k:Nat),oQ a l k=none→
 eF k (lQ enc (jI a v l))=eF k (lQ enc l)++[{key:=enc a,val:=v,born:=k+l.length}]∧(jI a v l).length=l.length+1
 |[],_,_=>⟨rfl,rfl⟩
 |(b,u0)::l,k,h=>by
  rw[oQ]at h;split at h;cases h
  rename_i hab;obtain⟨h1,h2⟩:=rW enc a v l (k+1) h;rw[jI,if_neg hab];refine⟨?_,by rw[List.length_cons,List.length_cons,h2]⟩;simp only[lQ,List.map_cons,eF,List.cons_append,List.length_cons]at h1⊢;rw[h1,show k+1+l.length=k+(l.length+1)from by omega]
structure KeyF (P:Program) (kt:TypeId) (enc:α→Value):Prop where
 chk:∀b a w,(Instr.checkKey b 10000 kt (enc a)).run P w= .ok () w
 find:∀a l w,(Instr.findKey kt (enc a) (eF 0 (lQ enc l))).run P w= .ok (oQ a l 0) w
 same:∀a,Instr.sameBits 10000 (enc a) (enc a)=true
theorem oD{enc:α→Value}{td:TypeDesc}(h:∀a b,Instr.sameNow td (enc a) (enc b)=some (decide (a=b)))(a:α):∀(l:List (α×Value)) (k:Nat),Instr.findNow td (enc a) (eF k (lQ enc l)) k=some (oQ a l k)
 |[],_=>rfl
 |(b,u)::l,k=>by
  simp only[lQ,List.map_cons,eF,Instr.findNow,h,oQ];by_cases hab:a=b;simp[hab];simp only[hab,decide_false,if_false];exact oD h a l (k+1)
theorem KeyF.plain{P:Program}{kt:TypeId}{td:TypeDesc}{enc:α→Value}(hu:P.underlying kt=some td)(h:∀a b,Instr.sameNow td (enc a) (enc b)=some (decide (a=b)))
 (hc:∀b a w,(Instr.checkKey b 10000 kt (enc a)).run P w= .ok () w)(hs:∀a,Instr.sameBits 10000 (enc a) (enc a)=true):KeyF P kt enc:=
 ⟨hc,fun a l w=>by simp[Instr.findKey,run_underlying hu,oD h],hs⟩
def Told(lv:LV)(x:Value):Prop:=∀(cx:Cx) (w:World) (v:Value),V cx w lv v→v=x
theorem Told.v{x:Value}:Told (.v x) x:=fun _ _ _ h=>h.val
theorem Told.agg{xs:List Value}:Told (.agg (xs.map LV.v)) (.agg xs.toArray):=fun cx w v h=>by
 simp only[V]at h;obtain⟨vs,rfl,h⟩:=h;rw[Vs.vals xs vs h]
end
section
variable{P:Program}{r:Option Nat}{N:Nat}{D:List Nat}{B:bG}{all:Array Oper}{K:List (Nat×Ct)→St→Prop}
variable{i:Nat}{ops:List Oper}{tr:List (Nat×Ct)}{E:List (Nat×bB)}{L:List (Nat×LO)}{n:Nat}{g:Bool}{gn:List (Nat×bB)}
variable{d ty:Nat}{pos:String}{aft:Array Edge}{gd:Option (Nat×Bool)}
variable{α:Type}[DecidableEq α]
omit [DecidableEq α]in
theorem sF{t:Nat}(enc:α→Value)
 (ho:all[i]?=some ⟨some d,.makeMap t none,ty,pos,aft,none⟩:=by rfl)
 (h:Reg P r N D B all (i+1) ops ((i,⟨[],some d,(true,.ref n),[],[],[(n,.raw (bW enc []))],[n]⟩)::tr) (st ((d,(true,.ref n))::E) ((n,.raw (bW enc []))::L) (n+1)) K):
 Reg P r N D B all i (⟨some d,.makeMap t none,ty,pos,aft,none⟩::ops) tr (st E L n) K:=by
 refine Reg.new (es:=[]) (rd:=[]) ho gN rfl (by simp) (bO (by simp) (by simp) fun md n0 cx H ρ w hok _ _ hnew _=>?_) h;obtain⟨cx',t1,hA,hl,hp⟩:=Tr.new (w0:=w) hok (ob:=bW enc []) (o:=n) (hnew n (by simp)) (lv:= .map (some w.heap.size)) (x:= .raw (bW enc [])) ⟨rfl,rfl,rfl,rfl⟩ rfl (fun cx' e1 _ _ _=>⟨w.heap.size,e1,heap_alloc_new w _⟩);refine⟨.value (.map (some w.heap.size)),_,_,cx',?_,.inl rfl,t1,by simp only[V];exact⟨hA,hl.symm,rfl⟩⟩;simp[execOp,Instr.makeMap,bW,lQ,eF]
theorem By{cx:Cx}{w:World}{o:Nat}{v:Value}{es:Array MapEntry}{c:Nat}{md:Nat→Prop}{n0:Nat}{H:Hp}(hok:HOk md n0 cx H w)(hH:H o=some (.raw (.map es c)))(hv:V cx w (.ref o) v):
 ∃b,v= .map (some b)∧bk (cx.loc o)=some b∧w.heap[b]?=some (.map es c):=by
 simp only[V]at hv;obtain⟨_,h1,_⟩:=hv;obtain⟨_,b,hb,hw⟩:=hok.ok o _ hH;exact⟨b,h1.trans hb,by rw[hb];rfl,hw⟩
theorem qm{b:Nat}{es:Array MapEntry}{c:Nat}{w:World}(h:w.heap[b]?=some (.map es c)):(getObj b).run P w= .ok (.map es c) w:=by simp[getObj,Sem.run,h]
theorem ql{b:Nat}{es:Array MapEntry}{c:Nat}{w:World}(o:Obj)(h:w.heap[b]?=some (.map es c)):(setObj b o).run P w= .ok () (w.putObj b o):=by simp[setObj,Sem.run,h,World.putObj]
theorem xf{t kt et b:Nat}{enc:α→Value}{z:Value}(hT:P.underlying t=some (.map kt et))(hk:KeyF P kt enc)(hz:dh P et z)(a:α)(l:List (α×Value))(c:Bool)(w:World)(hw:w.heap[b]?=some (bW enc l)):
 (Instr.lookup t (.map (some b)) (enc a) c).run P w= .ok (if c then .tuple #[(pe a l).getD z,.bool (pe a l).isSome]else(pe a l).getD z) w:=by
 have hf:=hk.find a l w;have hg:=uU a l 0;unfold bW at hw;simp only[Instr.lookup,Sem.run_bind,run_underlying hT,Result.andThen_ok,qm hw,Sem.run_pure,hk.chk,hf];cases hp:oQ a l 0 with
 |none=>
  rw[hp]at hg;simp only[Sem.run_bind,hz w,Result.andThen_ok,Sem.run_pure,←hg];cases c<;>rfl
 |some q=>
  rw[hp]at hg;simp only[Sem.run_pure,Result.andThen_ok,←hg];cases c<;>rfl
theorem Aw{t kt et:Nat}{enc:α→Value}{z:Value}(hT:P.underlying t=some (.map kt et))(hk:KeyF P kt enc)(hz:dh P et z){a:α}{l:List (α×Value)}{x y:Operand}{gx gy:Bool}{o:Nat}{lk:LV}(hlk:Told lk (enc a))
 (ho:all[i]?=some ⟨some d,.lookup t x y false,ty,pos,aft,gd⟩:=by rfl)
 (hg:GuardOk (en E) all gd g gn:=by first|exact gN|exact gS rfl rfl)
 (hx:aP (en E) x=some (gx,.ref o):=by rfl)(hy:aP (en E) y=some (gy,lk):=by rfl)
 (hgx:g=true→gx=true:=by first|exact fun _=>rfl|exact id)(hgy:g=true→gy=true:=by first|exact fun _=>rfl|exact id)(hb:hp L o=some (.raw (bW enc l)):=by rfl)
 (h:Reg P r N D B all (i+1) ops ((i,bK gn [x,y] [(gx,.ref o),(gy,lk)] (some d) (g,.v ((pe a l).getD z)) [(o,.raw (bW enc l))])::tr) (st ((d,(g,.v ((pe a l).getD z)))::E) L n) K):
 Reg P r N D B all i (⟨some d,.lookup t x y false,ty,pos,aft,gd⟩::ops) tr (st E L n) K:=
 Reg.two rfl (fun h=>by
  rw[aE h hgx,aE h hgy];refine bj (x:=x) (y:=y) rfl (by simp) fun md n0 cx H ρ w hok hrd v1 v2=>?_;obtain⟨b,e1,_,hw⟩:=By hok (hrd o (.raw (bW enc l)) (by simp)) v1;have e2:=hlk cx w _ v2;refine⟨(pe a l).getD z,?_,aZ⟩;simp only[execOp,e1,e2,Sem.run_bind,xf hT hk hz a l false w hw];rfl) ho hg hx hy (jB hb) h
theorem xe{t kt et b:Nat}{enc:α→Value}(hT:P.underlying t=some (.map kt et))(hk:KeyF P kt enc)(a:α)(v:Value)(l:List (α×Value))(w:World)(hw:w.heap[b]?=some (bW enc l)):
 (Instr.mapUpdate t (.map (some b)) (enc a) v).run P w= .ok () (w.putObj b (bW enc (jI a v l))):=by
 have hf:=hk.find a l w;have hw':=hw;unfold bW at hw;simp only[Instr.mapUpdate,Sem.run_bind,run_underlying hT,Result.andThen_ok,qm hw,Sem.run_pure,hk.chk,hf];cases hp:oQ a l 0 with
 |none=>
  obtain⟨h1,h2⟩:=rW enc a v l 0 hp;simp only[];rw[ql _ hw];unfold bW;rw[h1,h2];simp
 |some q=>
  obtain⟨i,u⟩:=q;obtain⟨_,h1,h2,h3⟩:=yq enc a v l 0 i u hp;simp only[Nat.sub_zero]at h1 h2;have e:(((eF 0 (lQ enc l)).toArray[i]?).map (·.key)).getD (enc a)=enc a:=by
   rw[List.getElem?_toArray,h1];rfl
  simp only[Instr.keyThatStays,e,hk.same,if_true,Sem.run_bind,Sem.run_pure,Result.andThen_ok];rw[ql _ hw];unfold bW;rw[←h2,h3];simp
theorem qh{t kt et:Nat}{enc:α→Value}(hT:P.underlying t=some (.map kt et))(hk:KeyF P kt enc){a:α}{l:List (α×Value)}{v:Value}{x y z:Operand}{o:Nat}{lk:LV}(hlk:Told lk (enc a))
 (ho:all[i]?=some ⟨none,.mapUpdate t x y z,ty,pos,aft,none⟩:=by rfl)
 (hx:aP (en E) x=some (true,.ref o):=by rfl)(hy:aP (en E) y=some (true,lk):=by rfl)(hz:aP (en E) z=some (true,.v v):=by rfl)(hb:hp L o=some (.raw (bW enc l)):=by rfl)
 (h:Reg P r N D B all (i+1) ops ((i,⟨bA [x,y,z] [(true,.ref o),(true,lk),(true,.v v)],none,(true,.v undef),[],[(o,.raw (bW enc l))],[(o,.raw (bW enc (jI a v l)))],[]⟩)::tr) (st E ((o,.raw (bW enc (jI a v l)))::L) n) K):
 Reg P r N D B all i (⟨none,.mapUpdate t x y z,ty,pos,aft,none⟩::ops) tr (st E L n) K:=
 Reg.set (es:=[(true,.ref o),(true,lk),(true,.v v)]) (rd:=[]) ho gN ⟨_,_,rfl,hx,_,_,rfl,hy,_,_,rfl,hz,rfl⟩ (by simp) hb (bO (by simp) (by simp) fun md n0 cx H ρ w hok _ hHi _ hv=>by
  obtain⟨v1,v2,v3⟩:=Vs.three hv;simp only[bD]at v1 v2 v3;have hob:=hHi o (.raw (bW enc l)) (by simp);obtain⟨b,e1,hbk,hw⟩:=By hok hob v1;have e2:=hlk cx w _ v2;have e3:=v3.val;refine⟨.skip,undef,_,cx,?_,.inr ⟨rfl,rfl⟩,Tr.put hok hob hbk (bW enc (jI a v l)) (fun _ hh=>⟨b,?_,hh⟩),aZ⟩;simp only[execOp,e1,e2,e3,Sem.run_bind,xe hT hk a v l w hw];rfl;obtain⟨_,b',hb',_⟩:=hok.ok o _ hob;rw[hb']at hbk;simp only[bk,Option.some.injEq]at hbk;rw[hb',hbk]) h
end
end Go.Proofs.YtgkhfpfjokagfaaGreatDoor
namespace Go.Proofs.YtgkhfpfjokagfaaGreatDoor
def FZ(x:Value):Prop:=∃b,x= .bool b
section
variable{P:Program}{r:Option Nat}{N:Nat}{D:List Nat}{B:bG}{all:Array Oper}{K:List (Nat×Ct)→St→Prop}
variable{i:Nat}{ops:List Oper}{tr:List (Nat×Ct)}{E:List (Nat×bB)}{L:List (Nat×LO)}{n:Nat}{g:Bool}{gn:List (Nat×bB)}
variable{d ty:Nat}{pos:String}{aft:Array Edge}{gd:Option (Nat×Bool)}
theorem m5{op:BinOp}(hop:op= .eql∨op= .neq:=by first|exact .inl rfl|exact .inr rfl){t e yt:Nat}(hT:P.underlying t=some (.slice e)){x:Operand}{gx:Bool}{sz:Nat}{xs:List (List SV)}
 (ho:all[i]?=some ⟨some d,.binOp op t x (.const (.slice none 0 0)) yt,ty,pos,aft,gd⟩:=by rfl)(hg:GuardOk (en E) all gd g gn:=by first|exact gN|exact gS rfl rfl)
 (hx:aP (en E) x=some (gx,.sv (.sl sz xs)):=by rfl)(hgx:g=true→gx=true:=by first|exact fun _=>rfl|exact id)
 (h:Reg P r N D B all (i+1) ops ((i,bK gn [x,.const (.slice none 0 0)] [(gx,.sv (.sl sz xs)),(true,.v (.slice none 0 0))] (some d) (g,.pv FZ) [])::tr) (st ((d,(g,.pv FZ))::E) L n) K):
 Reg P r N D B all i (⟨some d,.binOp op t x (.const (.slice none 0 0)) yt,ty,pos,aft,gd⟩::ops) tr (st E L n) K:=
 Reg.two rfl (fun h=>by
  rw[aE h hgx];refine bj (x:=x) (y:= .const (.slice none 0 0)) rfl (by simp) fun md n0 cx H ρ w hok hrd v1 v2=>?_;have v2':=v2.val;simp only[V,VS]at v1;have key:∃a l c,ρ x= .slice a l c:=by
   rcases v1 with⟨h1|⟨a,c,h1,_⟩,_⟩|⟨b,off,cap,h1,_⟩
   exact⟨_,_,_,h1⟩;exact⟨_,_,_,h1⟩;exact⟨_,_,_,h1⟩
  obtain⟨a,l,c,he⟩:=key;rcases hop with rfl|rfl
  exact⟨.bool a.isNone,by cases a<;>simp[execOp,he,v2',eqGuard,binOp,gD w t e _ _ _ hT,Sem.run_bind],by simp only[V];exact⟨⟨_,rfl⟩,rfl⟩⟩;exact⟨.bool (!a.isNone),by cases a<;>simp[execOp,he,v2',eqGuard,binOp,gD w t e _ _ _ hT,Sem.run_bind],by simp only[V];exact⟨⟨_,rfl⟩,rfl⟩⟩) ho hg hx rfl (by simp) h
end
section
variable{P:Program}{r:Option Nat}{N:Nat}{D:List Nat}{B:bG}{Ψ:Exit→Act→World→Prop}{todo:List Item}
variable{E:List (Nat×bB)}{L:List (Nat×LO)}{n:Nat}
theorem kh{c:Operand}{x y:Code}(hc:aP (en E) c=some (true,.pv FZ):=by rfl)(ht:LGo P r N D B Ψ (.code x::todo) (st E L n))(hf:LGo P r N D B Ψ (.code y::todo) (st E L n)):
 LGo P r N D B Ψ (.code (.cond c x y)::todo) (st E L n):=by
 refine⟨fun cx a w hr b k cs hb=>?_⟩;have hv:=jg hr hc rfl;simp only[V]at hv;obtain⟨⟨t,he⟩,_⟩:=hv;cases t with
 |true=>
  obtain⟨e,a',w',hq,harr⟩:=ht.go cx a w hr b k cs hb;exact⟨e,a',w',hq,.of_steps (.one (gi P r _) (stepR_cond he)) harr⟩
 |false=>
  obtain⟨e,a',w',hq,harr⟩:=hf.go cx a w hr b k cs hb;exact⟨e,a',w',hq,.of_steps (.one (gi P r _) (stepR_cond he)) harr⟩
end
end Go.Proofs.YtgkhfpfjokagfaaGreatDoor
namespace Go.Proofs.YtgkhfpfjokagfaaGreatDoor
section
variable{P:Program}{r:Option Nat}{N:Nat}{D:List Nat}{B:bG}{all:Array Oper}{K:List (Nat×Ct)→St→Prop}
variable{i:Nat}{ops:List Oper}{tr:List (Nat×Ct)}{E:List (Nat×bB)}{L:List (Nat×LO)}{n:Nat}{g:Bool}{gn:List (Nat×bB)}
variable{d ty:Nat}{pos:String}{aft:Array Edge}{gd:Option (Nat×Bool)}
theorem OpC.buildSliceSub{t e sz:Nat}(hF:AppF P t e sz){o:Oper}{len:Nat}{parts:Array (Nat×Operand)}{xs:List Operand}{ls:List LV}{cs:List (List LV)}
 (ho:o.op= .buildSlice t len parts)(hdd:∀c,o.op≠ .defer c)(hp':parts.toList=xs.zipIdx.map (fun p=>(p.2,p.1)))
 (hcs:CellsOfs ls cs)(hsz:(cs.all fun c=>c.length==sz)=true)(hlen:cs.length=len)(hsm:len*sz≤16777216)(hlm:len≤16777216)(n:Nat):
 OpC P r o ls [] [] (.sub n 0 len len) [(n,.box e cs.flatten)] [n]:=by
 have hl:o.op.operands.toList=xs:=by
  rw[ho];show(parts.toList.map (·.2)).toArray.toList=xs;rw[hp'];simp only[List.map_map,List.toList_toArray];have:((fun(x:Nat×Operand)=>x.2)∘fun(p:Operand×Nat)=>(p.2,p.1))=Prod.fst:=rfl;rw[this];simp
 refine bO hdd (by simp) fun md n0 cx H ρ w hok _ _ hnew hv=>?_;obtain⟨ht,i0,z,hi,hz,hisz,_,hzs⟩:=hF.get;rw[hl]at hv;obtain⟨us,g1,g2,g3,g4,g5⟩:=hcs.get hv;have hcl:∀c∈cs,c.length=sz:=fun c hc=>by simpa using List.all_eq_true.1 hsz c hc
 have hul:∀u∈us,u.length=sz:=by
  intro u hu;obtain⟨j,hj⟩:=List.getElem?_of_mem hu;have hjl:j<cs.length:=by rw[←g2];exact(List.getElem?_eq_some_iff.1 hj).1
  rw[g3 j u cs[j] hj (List.getElem?_eq_getElem hjl)];exact hcl _ (List.getElem_mem hjl)
 have hxl:xs.length=len:=by
  have h1:=congrArg List.length g1;simp only[List.length_map]at h1;omega
 have hus:us.flatten.length=len*sz:=by
  rw[List.length_flatten];have:us.map List.length=List.replicate us.length sz:=by
   rw[List.eq_replicate_iff];refine⟨by simp,fun b hb=>?_⟩;obtain⟨e,he,rfl⟩:=List.mem_map.1 hb;exact hul e he
  rw[this];simp only[List.sum_replicate_nat];rw[show us.length=len from by omega]
 let C0:Array Value:=(Array.range (len*sz)).map (fun k=>(if len*sz=0 then#[]else z.cells)[k%(if len*sz=0 then#[]else z.cells).size]!)
 have hC0:C0.size=len*sz:=by simp[C0]
 obtain⟨C',f1,f2⟩:=p7 sz (xs.map ρ) us 0 C0 g1 hul (by rw[List.length_map,hC0,hxl];simp);have hC':C'.toList=us.flatten:=by
  rw[f2];simp only[Nat.zero_mul,List.take_zero,List.nil_append,Nat.zero_add,List.length_map,hxl];rw[List.drop_of_length_le (by simp[hC0])];simp
 have hCs:C'.size=len*sz:=by rw[←Array.length_toList,hC',hus]
 have hCe:C'=us.flatten.toArray:=by rw[←hC']
 obtain⟨cx',t1,hp1⟩:=nA (T:=e) (w0:=w) hok (hnew n (by simp)) ⟨rfl,rfl,rfl,rfl⟩ g4;have hv':V cx' (w.alloc (.cells us.flatten.toArray e)) (.sub n 0 len len) (.slice (some ⟨w.heap.size,0,none⟩) len len):=by
  simp only[V]at hp1⊢;obtain⟨hA,b,hb,he⟩:=hp1;simp only[Value.pointer.injEq,Option.some.injEq,Addr.mk.injEq]at he;exact⟨hA,b,hb,by rw[he.1]⟩
 rw[←hCe]at t1 hv';refine⟨_,_,_,cx',?_,.inl rfl,t1,hv'⟩;have hp2:(parts.map fun x=>(x.1,ρ x.2)).toList=((xs.map ρ).zipIdx 0).map fun p=>(p.2,p.1):=by
  rw[Array.toList_map,hp'];simp only[List.map_map,List.zipIdx_map];rfl
 have hop:(parts.map fun x=>(x.1,ρ x.2))=(((xs.map ρ).zipIdx 0).map fun p=>(p.2,p.1)).toArray:=by rw[←hp2]
 have hbig:¬len*sz>16777216:=by omega
 have hfill:Instr.fill (fun i=>some (i*sz,sz)) ((Array.range (len*sz)).map (fun k=>(if len*sz=0 then#[]else z.cells)[k%(if len*sz=0 then#[]else z.cells).size]!)) (((xs.map ρ).zipIdx 0).map fun p=>(p.2,p.1))=some C':=f1;by_cases h0:len*sz=0;simp only[h0,if_true]at hfill;simp[execOp,ho,Instr.buildSlice,run_underlying ht,sizeOf,typeInfo,hi,hisz,hop,h0,newRow];simp at hfill;rw[hfill];simp;simp only[h0,if_false]at hfill;simp only[execOp,ho,Instr.buildSlice,hop];simp[run_underlying ht,sizeOf,typeInfo,zeroValue,hi,hz,hisz,h0,newRow];rw[if_neg hbig];rw[hfill];simp
theorem oS{t e sz:Nat}(hF:AppF P t e sz){len:Nat}{parts:Array (Nat×Operand)}{xs:List Operand}{es:List bB}{ls:List LV}{cs:List (List LV)}{ds:List LV}
 (ho:all[i]?=some ⟨some d,.buildSlice t len parts,ty,pos,aft,none⟩:=by rfl)(hp':parts.toList=xs.zipIdx.map (fun p=>(p.2,p.1)):=by rfl)
 (hx:xs.map (aP (en E))=es.map some:=by rfl)(hes:es.map bD=ls:=by rfl)(hcs:CellsOfs ls cs:=by repeat (first|exact CellsOfs.nil|refine CellsOfs.cons (CellsOf.one rfl) ?_|refine CellsOfs.cons (CellsOf.agg rfl) ?_))(hsz:(cs.all fun c=>c.length==sz)=true:=by rfl)(hlen:cs.length=len:=by rfl)
 (hsm:len*sz≤16777216:=by first|decide|omega)(hlm:len≤16777216:=by first|decide|omega)(hds:cs.flatten=ds:=by rfl)
 (h:Reg P r N D B all (i+1) ops ((i,⟨bA xs es,some d,(true,.sub n 0 len len),[],[],[(n,.box e ds)],[n]⟩)::tr) (st ((d,(true,.sub n 0 len len))::E) ((n,.box e ds)::L) (n+1)) K):
 Reg P r N D B all i (⟨some d,.buildSlice t len parts,ty,pos,aft,none⟩::ops) tr (st E L n) K:=by
 subst hds;subst hes;have hl:(Oper.mk (some d) (.buildSlice t len parts) ty pos aft none).op.operands.toList=xs:=by
  show(parts.toList.map (·.2)).toArray.toList=xs;rw[hp'];simp only[List.map_map,List.toList_toArray];have:((fun(x:Nat×Operand)=>x.2)∘fun(p:Operand×Nat)=>(p.2,p.1))=Prod.fst:=rfl;rw[this];simp
 exact Reg.new (es:=es) (rd:=[]) ho gN (by rw[hl];exact bw hx) (by simp) (OpC.buildSliceSub hF rfl (by simp) hp' hcs hsz hlen hsm hlm n) (by rw[hl];exact h)
theorem Dn{T:Nat}(hF:db P T){x:Operand}{gx:Bool}{o off len cap:Nat}
 (ho:all[i]?=some ⟨some d,.call {callee:= .builtin .len,args:=#[x],argTypes:=#[T]},ty,pos,aft,gd⟩:=by rfl)(hg:GuardOk (en E) all gd g gn:=by first|exact gN|exact gS rfl rfl)
 (hx:aP (en E) x=some (gx,.sub o off len cap):=by rfl)(hgx:g=true→gx=true:=by first|exact fun _=>rfl|exact id)
 (h:Reg P r N D B all (i+1) ops ((i,bK gn [x] [(gx,.sub o off len cap)] (some d) (g,.i len) [])::tr) (st ((d,(g,.i len))::E) L n) K):
 Reg P r N D B all i (⟨some d,.call {callee:= .builtin .len,args:=#[x],argTypes:=#[T]},ty,pos,aft,gd⟩::ops) tr (st E L n) K:=
 Reg.one rfl (fun h=>by
  rw[aE h hgx];refine bm (x:=x) rfl (by simp) fun md n0 cx H ρ w hok hrd hvv=>?_;obtain⟨el,hT⟩:=hF;simp only[V]at hvv;obtain⟨_,b,_,he⟩:=hvv;refine⟨.int .i64 len,?_,aZ⟩;simp[execOp,resolve,invoke,builtin,Builtin.len_,he,hT w,goInt]) ho hg hx (by simp) h
theorem bL{T sz:Nat}(hF:IndexF P T sz){x y:Operand}{gx gy:Bool}{o off len cap:Nat}{k:IntKind}{j:Int}
 (ho:all[i]?=some ⟨some d,.indexAddr T x y,ty,pos,aft,gd⟩:=by rfl)(hg:GuardOk (en E) all gd g gn:=by first|exact gN|exact gS rfl rfl)
 (hx:aP (en E) x=some (gx,.sub o off len cap):=by rfl)(hy:aP (en E) y=some (gy,.v (.int k j)):=by rfl)
 (hgx:g=true→gx=true:=by first|exact fun _=>rfl|exact id)(hgy:g=true→gy=true:=by first|exact fun _=>rfl|exact id)
 (hj:g=true→0≤j∧j<len)
 (h:Reg P r N D B all (i+1) ops ((i,bK gn [x,y] [(gx,.sub o off len cap),(gy,.v (.int k j))] (some d) (g,.ptr o (off+j.toNat*sz)) [])::tr) (st ((d,(g,.ptr o (off+j.toNat*sz)))::E) L n) K):
 Reg P r N D B all i (⟨some d,.indexAddr T x y,ty,pos,aft,gd⟩::ops) tr (st E L n) K:=
 Reg.two rfl (fun h=>by
  rw[aE h hgx,aE h hgy];refine bj (x:=x) (y:=y) rfl (by simp) fun md n0 cx H ρ w hok hrd v1 v2=>?_;obtain⟨h0,hlt⟩:=hj h;simp only[V]at v1;obtain⟨hA,b,hb,hv1⟩:=v1;refine⟨.pointer (some ⟨b,off+j.toNat*sz,none⟩),by simp only[execOp,hv1,v2.val];simp[hF b off len cap k j w h0 hlt],?_⟩;simp only[V];exact⟨hA,b,hb,rfl⟩) ho hg hx hy (by simp) h
end
end Go.Proofs.YtgkhfpfjokagfaaGreatDoor
namespace Go.Proofs.YtgkhfpfjokagfaaGreatDoor
def oP{α:Type}(C:List α)(q:Nat×List α):List α:=C.take q.1++q.2++C.drop (q.1+q.2.length)
theorem Ch{α:Type}(C:List α)(q:Nat×List α)(h:q.1+q.2.length≤C.length):(oP C q).length=C.length:=by
 unfold oP;simp only[List.length_append,List.length_take,List.length_drop];omega
theorem vu{offs:List (Nat×Nat)}{m:Nat}:∀(ps:List (Nat×Value)) (qs:List (Nat×List Value)) (C:Array Value),C.size=m→ps.map (fun p=>offs[p.1]?)=qs.map (fun q=>some (q.1,q.2.length))→ps.map (fun p=>p.2.cells)=qs.map (fun q=>q.2.toArray)→(∀q∈qs,q.1+q.2.length≤m)→
 Instr.fill (offs.toArray[·]?) C ps=some (qs.foldl oP C.toList).toArray
 |[],qs,C,_,h,_,_=>by cases qs with
  |nil=>simp[Instr.fill]
  |cons q qs=>simp at h
 |(j,v)::ps,[],C,_,h,_,_=>by simp at h
 |(j,v)::ps,q::qs,C,hC,h,h1,h2=>by
  simp only[List.map_cons,List.cons.injEq]at h h1;have hk:=h2 q (by simp);have hf:(q.2.toArray.zipIdx.foldl (fun(cs:Array Value) (x:Value×Nat)=>cs.setIfInBounds (q.1+x.2) x.1) C).toList=oP C.toList q:=by
   have:=nt q.2 0 q.1 C (by omega);simp only[Nat.add_zero]at this;unfold oP;rw[←this,←Array.foldl_toList];simp
  have hsz:(q.2.toArray.zipIdx.foldl (fun(cs:Array Value) (x:Value×Nat)=>cs.setIfInBounds (q.1+x.2) x.1) C).size=m:=by
   rw[←Array.length_toList,hf,Ch _ _ (by simp;omega)];simpa using hC
  have ih:=vu (offs:=offs) ps qs _ hsz h.2 h1.2 (fun q hq=>h2 q (List.mem_cons_of_mem _ hq));simp only[Instr.fill];have e1:offs.toArray[j]?=some (q.1,q.2.length):=by simpa using h.1
  rw[e1];simp only[h1.1];rw[if_neg (by simp;omega)];rw[hf]at ih;exact ih
theorem DR{cx:Cx}{w:World}{C:List LV}{D:List Value}{q:Nat×List LV}{u:List Value}(h:Vs cx w C D)(k:Vs cx w q.2 u):Vs cx w (oP C q) (oP D (q.1,u)):=by
 unfold oP;have h1:=ea q.1 C D h;have h2:=ea (q.1+q.2.length) C D h;rw[←k.length]at h2⊢;exact Vs.append (Vs.append h1.1 k) h2.2
theorem uB{cx:Cx}{w:World}:∀(ks:List Nat) (cs:List (List LV)) (us:List (List Value)) (C:List LV) (D:List Value),Vs cx w C D→us.length=cs.length→(∀(j:Nat) (u:List Value) (c:List LV),us[j]?=some u→cs[j]?=some c→Vs cx w c u)→
 Vs cx w ((ks.zip cs).foldl oP C) ((ks.zip us).foldl oP D)
 |[],cs,us,C,D,h,_,_=>by simpa using h
 |k::ks,[],us,C,D,h,hl,_=>by
  have:us=[]:=List.eq_nil_of_length_eq_zero (by simpa using hl);subst this;simpa using h
 |k::ks,c::cs,[],C,D,h,hl,_=>by simp at hl
 |k::ks,c::cs,u::us,C,D,h,hl,hv=>by
  simp only[List.zip_cons_cons,List.foldl_cons];exact uB ks cs us _ _ (DR (q:=(k,c)) h (hv 0 u c rfl rfl)) (by simpa using hl) (fun j u' c' h1 h2=>hv (j+1) u' c' (by simpa using h1) (by simpa using h2))
theorem CellsOfs.each:∀{ls:List LV} {cs:List (List LV)},CellsOfs ls cs→∀{cx:Cx} {w:World} {vs:List Value},Vs cx w ls vs→
 ∃us:List (List Value),vs.map Value.cells=us.map List.toArray∧us.length=cs.length∧(∀(j:Nat) (u:List Value) (c:List LV),us[j]?=some u→cs[j]?=some c→Vs cx w c u)
 |[],cs,h,cx,w,vs,hv=>by
  simp only[CellsOfs]at h;subst h;simp only[Vs]at hv;subst hv;exact⟨[],by simp,by simp,by simp⟩
 |l::ls,cs,h,cx,w,vs,hv=>by
  obtain⟨c,r',rfl,h1,h2⟩:=h;simp only[Vs]at hv;obtain⟨y,ys,rfl,hy,hys⟩:=hv;obtain⟨u,k1,k2,_⟩:=h1 cx w y hy;obtain⟨us,g1,g2,g3⟩:=CellsOfs.each h2 hys;refine⟨u::us,by simp[k1,g1],by simp[g2],fun j u' c' hu hc=>?_⟩;cases j with
  |zero=>simp at hu hc;subst hu;subst hc;exact k2
  |succ j=>exact g3 j u' c' (by simpa using hu) (by simpa using hc)
section
variable{P:Program}{r:Option Nat}{N:Nat}{D:List Nat}{B:bG}{all:Array Oper}{K:List (Nat×Ct)→St→Prop}
variable{i:Nat}{ops:List Oper}{tr:List (Nat×Ct)}{E:List (Nat×bB)}{L:List (Nat×LO)}{n:Nat}{g:Bool}{gn:List (Nat×bB)}
variable{d ty:Nat}{pos:String}{aft:Array Edge}{gd:Option (Nat×Bool)}
theorem Ds{t:Nat}{zs:List Value}{offs:List (Nat×Nat)}(hF:BH P t zs offs){parts:Array (Nat×Operand)}{is ks:List Nat}{xs:List Operand}{es:List bB}{ls:List LV}{cs:List (List LV)}{ds:List LV}
 (ho:all[i]?=some ⟨some d,.build t parts,ty,pos,aft,gd⟩:=by rfl)(hg:GuardOk (en E) all gd g gn:=by first|exact gN|exact gS rfl rfl)(hp':parts.toList=is.zip xs:=by rfl)(hil:is.length=xs.length:=by rfl)
 (hx:xs.map (aP (en E))=es.map some:=by rfl)(hes:g=true→es.map bD=ls:=by first|exact fun _=>rfl|(intro h;simp[bD,h];done)|(intro h;simp only[List.map_cons,List.map_nil,fG h];first|done|rfl))
 (hcs:CellsOfs ls cs:=by repeat (first|exact CellsOfs.nil|refine CellsOfs.cons (CellsOf.one rfl) ?_|refine CellsOfs.cons (CellsOf.agg rfl) ?_))
 (hkl:ks.length=cs.length:=by rfl)(hk:is.map (fun i=>offs[i]?)=(ks.zip cs).map (fun q=>some (q.1,q.2.length)):=by rfl)(hlt:((ks.zip cs).all fun q=>decide (q.1+q.2.length≤zs.length))=true:=by rfl)
 (hds:(ks.zip cs).foldl oP (zs.map fun c=>.sv (.val c))=ds:=by rfl)
 (h:Reg P r N D B all (i+1) ops ((i,bK gn xs es (some d) (g,.agg ds) [])::tr) (st ((d,(g,.agg ds))::E) L n) K):
 Reg P r N D B all i (⟨some d,.build t parts,ty,pos,aft,gd⟩::ops) tr (st E L n) K:=by
 have hop:(Oper.mk (some d) (.build t parts) ty pos aft gd).op.operands.toList=xs:=by
  show(parts.toList.map (·.2)).toArray.toList=xs;rw[hp'];simp only[List.toList_toArray];exact List.map_snd_zip (by omega)
 refine dF (es:=es) (rd:=[]) (out:= .agg ds) ho hg ?_ (by simp) (fun hgt=>?_) ?_;rw[hop];exact bw hx;rw[hes hgt];refine dY (by simp) fun md n0 cx H ρ w _ _ hv=>?_;rw[hop]at hv;obtain⟨hz,fields,hu,hm⟩:=hF;obtain⟨us,g1,g2,g3⟩:=hcs.each hv;have hxl:xs.length=cs.length:=by
  have h1:=congrArg List.length g1;simp only[List.length_map]at h1;omega
 have hpl:(parts.map fun(x:Nat×Operand)=>(x.1,ρ x.2)).toList=is.zip (xs.map ρ):=by
  rw[Array.toList_map,hp',List.zip_map_right];rfl
 have hfs:(is.zip (xs.map ρ)).map Prod.fst=is:=List.map_fst_zip (by rw[List.length_map];omega);have hsn:(is.zip (xs.map ρ)).map Prod.snd=xs.map ρ:=List.map_snd_zip (by rw[List.length_map];omega);have hlen:∀(j:Nat) (u:List Value) (c:List LV),us[j]?=some u→cs[j]?=some c→u.length=c.length:=fun j u c h1 h2=>(g3 j u c h1 h2).length;have hzz:(ks.zip us).map (fun q=>(q.1,q.2.length))=(ks.zip cs).map (fun q=>(q.1,q.2.length)):=by
  apply List.ext_getElem?;intro j;rw[List.getElem?_map,List.getElem?_map];by_cases hj:j<cs.length;have e1:us[j]?=some us[j]:=List.getElem?_eq_getElem (by omega);have e2:cs[j]?=some cs[j]:=List.getElem?_eq_getElem hj;have e3:ks[j]?=some ks[j]:=List.getElem?_eq_getElem (by omega);have:=hlen j _ _ e1 e2;have z1:(ks.zip us)[j]?=some (ks[j],us[j]):=List.getElem?_zip_eq_some.2 ⟨e3,e1⟩;have z2:(ks.zip cs)[j]?=some (ks[j],cs[j]):=List.getElem?_zip_eq_some.2 ⟨e3,e2⟩;rw[z1,z2];simp[this];rw[List.getElem?_eq_none (by simp;omega),List.getElem?_eq_none (by simp;omega)];rfl
 have hmp:(is.zip (xs.map ρ)).map (fun p=>offs[p.1]?)=(ks.zip us).map (fun q=>some (q.1,q.2.length)):=by
  rw[show(fun p:Nat×Value=>offs[p.1]?)=(fun i=>offs[i]?)∘Prod.fst from rfl,←List.map_map,hfs,hk];have:=congrArg (List.map some) hzz;simp only[List.map_map]at this;exact this.symm
 have hcl:(is.zip (xs.map ρ)).map (fun p=>p.2.cells)=(ks.zip us).map (fun q=>q.2.toArray):=by
  rw[show(fun p:Nat×Value=>p.2.cells)=Value.cells∘Prod.snd from rfl,←List.map_map,hsn,g1,show(fun q:Nat×List Value=>q.2.toArray)=List.toArray∘Prod.snd from rfl,←List.map_map,List.map_snd_zip (by omega)]
 have hle:∀q∈ks.zip us,q.1+q.2.length≤zs.length:=by
  intro q hq;have:(q.1,q.2.length)∈(ks.zip cs).map (fun q=>(q.1,q.2.length)):=by rw[←hzz];exact List.mem_map.2 ⟨q,hq,rfl⟩
  obtain⟨q2,h2,e2⟩:=List.mem_map.1 this;have h3:=List.all_eq_true.1 hlt q2 h2;simp only[decide_eq_true_eq]at h3;simp only[Prod.mk.injEq]at e2;omega
 have hfill:=vu (offs:=offs) (m:=zs.length) (is.zip (xs.map ρ)) (ks.zip us) zs.toArray (by simp) hmp hcl hle;refine⟨.agg ((ks.zip us).foldl oP zs).toArray,?_,?_⟩;simp only[execOp,Instr.build,Sem.run_bind,hz w,hu w,Result.andThen_ok,hm w,Value.cells];have:(parts.map fun(i,x)=>(i,ρ x)).toList=is.zip (xs.map ρ):=hpl;rw[this];simp only[List.toList_toArray]at hfill;rw[hfill];simp;rw[←hds];simp only[V];exact⟨_,rfl,uB ks cs us _ _ (gB cx w zs) g2 g3⟩;rw[hop];exact h
end
theorem aQ:Tryz.prog.follows .mixedOrders=true:=by kernel_rfl
theorem O2:dP Tryz.prog 2:=⟨Tryz.isAgg2,Tryz.sizeOf2⟩
theorem O3:dP Tryz.prog 3:=⟨Tryz.isAgg3,Tryz.sizeOf3⟩
theorem Z3:dh Tryz.prog 3 (Go.Value.int Go.IntKind.i64 0):=Tryz.zeroValue3
theorem O4:dP Tryz.prog 4:=⟨Tryz.isAgg4,Tryz.sizeOf4⟩
theorem Z4:dh Tryz.prog 4 (Go.Value.bool false):=Tryz.zeroValue4
theorem O5:dP Tryz.prog 5:=⟨Tryz.isAgg5,Tryz.sizeOf5⟩
theorem O9:dP Tryz.prog 9:=⟨Tryz.isAgg9,Tryz.sizeOf9⟩
theorem kC:dP Tryz.prog 22:=⟨Tryz.isAgg22,Tryz.sizeOf22⟩
theorem wz:IndexF Tryz.prog 22 3:=IndexF.of Tryz.runUnderlying22 Tryz.sizeOf40
theorem sK:db Tryz.prog 22:=⟨_,Tryz.runUnderlying22⟩
theorem wK:AppF Tryz.prog 22 40 3:=⟨Tryz.underlying22,by kernel_rfl⟩
theorem IN:jP Tryz.prog 22 3:=⟨_,Tryz.runUnderlying22,Tryz.sizeOf40⟩
theorem sM:dO Tryz.prog 24 4:=⟨Tryz.isAgg24,Tryz.sizeOf24⟩
theorem ID:dh Tryz.prog 24 (Go.Value.agg #[Go.Value.int Go.IntKind.i64 0,Go.Value.int Go.IntKind.i64 0,Go.Value.int Go.IntKind.i64 0,Go.Value.slice none 0 0]):=Tryz.zeroValue24
theorem lX:FieldF Tryz.prog 24 0 0:=FieldF.of Tryz.runUnderlying24 rfl rfl Tryz.sizeOf3
theorem lW:FieldF Tryz.prog 24 1 1:=FieldF.of Tryz.runUnderlying24 rfl rfl Tryz.sizeOf2
theorem lU:FieldF Tryz.prog 24 2 2:=FieldF.of Tryz.runUnderlying24 rfl rfl Tryz.sizeOf2
theorem cG:FieldF Tryz.prog 24 3 3:=FieldF.of Tryz.runUnderlying24 rfl rfl Tryz.sizeOf22
theorem I1:eG Tryz.prog 24 [Go.Value.int Go.IntKind.i64 0,Go.Value.int Go.IntKind.i64 0,Go.Value.int Go.IntKind.i64 0,Go.Value.slice none 0 0]:=⟨Tryz.zeroValue24,by simp[Value.oneCell'],_,Tryz.runUnderlying24,fun w=>by
 simp[Sem.run_bind,Result.andThen,Tryz.sizeOf2,Tryz.sizeOf3,Tryz.sizeOf22,List.range,List.range.loop]⟩
theorem gQ:dP Tryz.prog 25:=⟨Tryz.isAgg25,Tryz.sizeOf25⟩
theorem wy:IndexF Tryz.prog 25 3:=IndexF.of Tryz.runUnderlying25 Tryz.sizeOf42
theorem rm:db Tryz.prog 25:=⟨_,Tryz.runUnderlying25⟩
theorem sZ:AppF Tryz.prog 25 42 3:=⟨Tryz.underlying25,by kernel_rfl⟩
theorem kT:dP Tryz.prog 26:=⟨Tryz.isAgg26,Tryz.sizeOf26⟩
theorem DC:IndexF Tryz.prog 26 11:=IndexF.of Tryz.runUnderlying26 Tryz.sizeOf45
theorem rh:db Tryz.prog 26:=⟨_,Tryz.runUnderlying26⟩
theorem wJ:AppF Tryz.prog 26 45 11:=⟨Tryz.underlying26,by kernel_rfl⟩
theorem gG:dP Tryz.prog 27:=⟨Tryz.isAgg27,Tryz.sizeOf27⟩
theorem Ja:dh Tryz.prog 27 (Go.Value.slice none 0 0):=Tryz.zeroValue27
theorem wB:IndexF Tryz.prog 27 3:=IndexF.of Tryz.runUnderlying27 Tryz.sizeOf57
theorem oV:db Tryz.prog 27:=⟨_,Tryz.runUnderlying27⟩
theorem pj:AppF Tryz.prog 27 57 3:=⟨Tryz.underlying27,by kernel_rfl⟩
theorem gu:dO Tryz.prog 29 9:=⟨Tryz.isAgg29,Tryz.sizeOf29⟩
theorem Fw:dh Tryz.prog 29 (Go.Value.agg #[Go.Value.int Go.IntKind.i64 0,Go.Value.int Go.IntKind.i64 0,Go.Value.int Go.IntKind.i64 0,Go.Value.slice none 0 0,Go.Value.string (ByteArray.mk #[]),Go.Value.slice none 0 0,Go.Value.int Go.IntKind.i64 0,Go.Value.slice none 0 0,Go.Value.slice none 0 0]):=Tryz.zeroValue29
theorem fh:FieldF Tryz.prog 29 0 0:=FieldF.of Tryz.runUnderlying29 rfl rfl Tryz.sizeOf24
theorem jz:FieldF Tryz.prog 29 1 4:=FieldF.of Tryz.runUnderlying29 rfl rfl Tryz.sizeOf9
theorem fE:FieldF Tryz.prog 29 2 5:=FieldF.of Tryz.runUnderlying29 rfl rfl Tryz.sizeOf25
theorem jy:FieldF Tryz.prog 29 3 6:=FieldF.of Tryz.runUnderlying29 rfl rfl Tryz.sizeOf3
theorem cP:FieldF Tryz.prog 29 4 7:=FieldF.of Tryz.runUnderlying29 rfl rfl Tryz.sizeOf26
theorem cF:FieldF Tryz.prog 29 5 8:=FieldF.of Tryz.runUnderlying29 rfl rfl Tryz.sizeOf27
theorem I0:BH Tryz.prog 29 [Go.Value.int Go.IntKind.i64 0,Go.Value.int Go.IntKind.i64 0,Go.Value.int Go.IntKind.i64 0,Go.Value.slice none 0 0,Go.Value.string (ByteArray.mk #[]),Go.Value.slice none 0 0,Go.Value.int Go.IntKind.i64 0,Go.Value.slice none 0 0,Go.Value.slice none 0 0] [(0,4),(4,1),(5,1),(6,1),(7,1),(8,1)]:=⟨Tryz.zeroValue29,_,Tryz.runUnderlying29,fun w=>by
 simp[Sem.run_bind,Result.andThen,Tryz.sizeOf3,Tryz.sizeOf9,Tryz.sizeOf24,Tryz.sizeOf25,Tryz.sizeOf26,Tryz.sizeOf27]⟩
theorem IE:dP Tryz.prog 30:=⟨Tryz.isAgg30,Tryz.sizeOf30⟩
theorem xR:dP Tryz.prog 32:=⟨Tryz.isAgg32,Tryz.sizeOf32⟩
theorem I9:dh Tryz.prog 32 (Go.Value.int Go.IntKind.i64 0):=Tryz.zeroValue32
theorem gP:dP Tryz.prog 38:=⟨Tryz.isAgg38,Tryz.sizeOf38⟩
theorem jH:IndexF Tryz.prog 38 1:=IndexF.of Tryz.runUnderlying38 Tryz.sizeOf3
theorem iE:db Tryz.prog 38:=⟨_,Tryz.runUnderlying38⟩
theorem fa:AppF Tryz.prog 38 3 1:=⟨Tryz.underlying38,by kernel_rfl⟩
theorem rj:dO Tryz.prog 40 3:=⟨Tryz.isAgg40,Tryz.sizeOf40⟩
theorem DF:dh Tryz.prog 40 (Go.Value.agg #[Go.Value.string (ByteArray.mk #[]),Go.Value.slice none 0 0,Go.Value.int Go.IntKind.i64 0]):=Tryz.zeroValue40
theorem ij:FieldF Tryz.prog 40 0 0:=FieldF.of Tryz.runUnderlying40 rfl rfl Tryz.sizeOf9
theorem ej:FieldF Tryz.prog 40 1 1:=FieldF.of Tryz.runUnderlying40 rfl rfl Tryz.sizeOf38
theorem oh:FieldF Tryz.prog 40 2 2:=FieldF.of Tryz.runUnderlying40 rfl rfl Tryz.sizeOf3
theorem Gc:eG Tryz.prog 40 [Go.Value.string (ByteArray.mk #[]),Go.Value.slice none 0 0,Go.Value.int Go.IntKind.i64 0]:=⟨Tryz.zeroValue40,by simp[Value.oneCell'],_,Tryz.runUnderlying40,fun w=>by
 simp[Sem.run_bind,Result.andThen,Tryz.sizeOf3,Tryz.sizeOf9,Tryz.sizeOf38,List.range,List.range.loop]⟩
theorem ri:dO Tryz.prog 42 3:=⟨Tryz.isAgg42,Tryz.sizeOf42⟩
theorem FT:dh Tryz.prog 42 (Go.Value.agg #[Go.Value.slice none 0 0,Go.Value.int Go.IntKind.i64 0,Go.Value.int Go.IntKind.i64 0]):=Tryz.zeroValue42
theorem ez:FieldF Tryz.prog 42 0 0:=FieldF.of Tryz.runUnderlying42 rfl rfl Tryz.sizeOf38
theorem jx:FieldF Tryz.prog 42 1 1:=FieldF.of Tryz.runUnderlying42 rfl rfl Tryz.sizeOf2
theorem kP:FieldF Tryz.prog 42 2 2:=FieldF.of Tryz.runUnderlying42 rfl rfl Tryz.sizeOf2
theorem HG:eG Tryz.prog 42 [Go.Value.slice none 0 0,Go.Value.int Go.IntKind.i64 0,Go.Value.int Go.IntKind.i64 0]:=⟨Tryz.zeroValue42,by simp[Value.oneCell'],_,Tryz.runUnderlying42,fun w=>by
 simp[Sem.run_bind,Result.andThen,Tryz.sizeOf2,Tryz.sizeOf38,List.range,List.range.loop]⟩
theorem sL:dP Tryz.prog 43:=⟨Tryz.isAgg43,Tryz.sizeOf43⟩
theorem lK:dO Tryz.prog 45 11:=⟨Tryz.isAgg45,Tryz.sizeOf45⟩
theorem Hm:dh Tryz.prog 45 (Go.Value.agg #[Go.Value.int Go.IntKind.i64 0,Go.Value.int Go.IntKind.u32 0,Go.Value.int Go.IntKind.u32 0,Go.Value.int Go.IntKind.i64 0,Go.Value.int Go.IntKind.i64 0,Go.Value.int Go.IntKind.i64 0,Go.Value.int Go.IntKind.i64 0,Go.Value.int Go.IntKind.i64 0,Go.Value.int Go.IntKind.i64 0,Go.Value.int Go.IntKind.i64 0,Go.Value.string (ByteArray.mk #[])]):=Tryz.zeroValue45
theorem jw:FieldF Tryz.prog 45 0 0:=FieldF.of Tryz.runUnderlying45 rfl rfl Tryz.sizeOf3
theorem uy:FieldF Tryz.prog 45 1 1:=FieldF.of Tryz.runUnderlying45 rfl rfl Tryz.sizeOf43
theorem ux:FieldF Tryz.prog 45 2 2:=FieldF.of Tryz.runUnderlying45 rfl rfl Tryz.sizeOf43
theorem pD:FieldF Tryz.prog 45 3 3:=FieldF.of Tryz.runUnderlying45 rfl rfl Tryz.sizeOf3
theorem pC:FieldF Tryz.prog 45 4 4:=FieldF.of Tryz.runUnderlying45 rfl rfl Tryz.sizeOf3
theorem ya:FieldF Tryz.prog 45 5 5:=FieldF.of Tryz.runUnderlying45 rfl rfl Tryz.sizeOf3
theorem x9:FieldF Tryz.prog 45 6 6:=FieldF.of Tryz.runUnderlying45 rfl rfl Tryz.sizeOf3
theorem x8:FieldF Tryz.prog 45 7 7:=FieldF.of Tryz.runUnderlying45 rfl rfl Tryz.sizeOf3
theorem x7:FieldF Tryz.prog 45 8 8:=FieldF.of Tryz.runUnderlying45 rfl rfl Tryz.sizeOf3
theorem pB:FieldF Tryz.prog 45 9 9:=FieldF.of Tryz.runUnderlying45 rfl rfl Tryz.sizeOf3
theorem gY:FieldF Tryz.prog 45 10 10:=FieldF.of Tryz.runUnderlying45 rfl rfl Tryz.sizeOf9
theorem AL:eG Tryz.prog 45 [Go.Value.int Go.IntKind.i64 0,Go.Value.int Go.IntKind.u32 0,Go.Value.int Go.IntKind.u32 0,Go.Value.int Go.IntKind.i64 0,Go.Value.int Go.IntKind.i64 0,Go.Value.int Go.IntKind.i64 0,Go.Value.int Go.IntKind.i64 0,Go.Value.int Go.IntKind.i64 0,Go.Value.int Go.IntKind.i64 0,Go.Value.int Go.IntKind.i64 0,Go.Value.string (ByteArray.mk #[])]:=⟨Tryz.zeroValue45,by simp[Value.oneCell'],_,Tryz.runUnderlying45,fun w=>by
 simp[Sem.run_bind,Result.andThen,Tryz.sizeOf3,Tryz.sizeOf9,Tryz.sizeOf43,List.range,List.range.loop]⟩
theorem IU(a0 b0:Int)(a1 b1:Int)(a2 b2:Int)(a3 b3:Int)(a4 b4:Int)(a5 b5:Int)(a6 b6:Int)(a7 b7:Int)(a8 b8:Int)(a9 b9:Int)(a10 b10:List UInt8):∀w,(Op.eqFields 9999 #[.int .i64 a0,.int .u32 a1,.int .u32 a2,.int .i64 a3,.int .i64 a4,.int .i64 a5,.int .i64 a6,.int .i64 a7,.int .i64 a8,.int .i64 a9,.string ⟨a10.toArray⟩] #[.int .i64 b0,.int .u32 b1,.int .u32 b2,.int .i64 b3,.int .i64 b4,.int .i64 b5,.int .i64 b6,.int .i64 b7,.int .i64 b8,.int .i64 b9,.string ⟨b10.toArray⟩] (#[⟨ "Kind",3,0,false, "", "",0⟩,⟨ "Owner",43,1,false, "", "",8⟩,⟨ "To",43,2,false, "", "",12⟩,⟨ "Session",3,3,false, "", "",16⟩,⟨ "Ticket",3,4,false, "", "",24⟩,⟨ "Seat",3,5,false, "", "",32⟩,⟨ "Section",3,6,false, "", "",40⟩,⟨ "N",3,7,false, "", "",48⟩,⟨ "Gate",3,8,false, "", "",56⟩,⟨ "Spoil",3,9,false, "", "",64⟩,⟨ "Raw",9,10,false, "", "",72⟩]:Array Field).toList).run Tryz.prog w= .ok ((((((((((decide (a0=b0)&&decide (a1=b1))&&decide (a2=b2))&&decide (a3=b3))&&decide (a4=b4))&&decide (a5=b5))&&decide (a6=b6))&&decide (a7=b7))&&decide (a8=b8))&&decide (a9=b9))&&decide (a10=b10)) w:=by
 intro w;simp[Op.eqFields,part,l7,run_equalIn_int (P:=Tryz.prog) _ 9998 3 _ _ _ _ Tryz.underlying3,run_equalIn_int (P:=Tryz.prog) _ 9998 43 _ _ _ _ Tryz.underlying43,run_equalIn_int (P:=Tryz.prog) _ 9998 43 _ _ _ _ Tryz.underlying43,run_equalIn_int (P:=Tryz.prog) _ 9998 3 _ _ _ _ Tryz.underlying3,run_equalIn_int (P:=Tryz.prog) _ 9998 3 _ _ _ _ Tryz.underlying3,run_equalIn_int (P:=Tryz.prog) _ 9998 3 _ _ _ _ Tryz.underlying3,run_equalIn_int (P:=Tryz.prog) _ 9998 3 _ _ _ _ Tryz.underlying3,run_equalIn_int (P:=Tryz.prog) _ 9998 3 _ _ _ _ Tryz.underlying3,run_equalIn_int (P:=Tryz.prog) _ 9998 3 _ _ _ _ Tryz.underlying3,run_equalIn_int (P:=Tryz.prog) _ 9998 3 _ _ _ _ Tryz.underlying3,run_equalIn_string (P:=Tryz.prog) _ 9998 9 _ _ Tryz.underlying9,Tryz.isAgg3,Tryz.isAgg9,Tryz.isAgg43];by_cases h0:a0=b0<;>by_cases h1:a1=b1<;>by_cases h2:a2=b2<;>by_cases h3:a3=b3<;>by_cases h4:a4=b4<;>by_cases h5:a5=b5<;>by_cases h6:a6=b6<;>by_cases h7:a7=b7<;>by_cases h8:a8=b8<;>by_cases h9:a9=b9<;>by_cases h10:a10=b10<;>simp[*]
theorem DO(x y:Operand)(a0 b0:Int)(a1 b1:Int)(a2 b2:Int)(a3 b3:Int)(a4 b4:Int)(a5 b5:Int)(a6 b6:Int)(a7 b7:Int)(a8 b8:Int)(a9 b9:Int)(a10 b10:List UInt8):∀w,(do eqGuard .neq 45 x y (.agg #[.int .i64 a0,.int .u32 a1,.int .u32 a2,.int .i64 a3,.int .i64 a4,.int .i64 a5,.int .i64 a6,.int .i64 a7,.int .i64 a8,.int .i64 a9,.string ⟨a10.toArray⟩]) (.agg #[.int .i64 b0,.int .u32 b1,.int .u32 b2,.int .i64 b3,.int .i64 b4,.int .i64 b5,.int .i64 b6,.int .i64 b7,.int .i64 b8,.int .i64 b9,.string ⟨b10.toArray⟩]);binOp .neq 45 (.agg #[.int .i64 a0,.int .u32 a1,.int .u32 a2,.int .i64 a3,.int .i64 a4,.int .i64 a5,.int .i64 a6,.int .i64 a7,.int .i64 a8,.int .i64 a9,.string ⟨a10.toArray⟩]) (.agg #[.int .i64 b0,.int .u32 b1,.int .u32 b2,.int .i64 b3,.int .i64 b4,.int .i64 b5,.int .i64 b6,.int .i64 b7,.int .i64 b8,.int .i64 b9,.string ⟨b10.toArray⟩]):Sem Value).run Tryz.prog w= .ok (.bool (!((((((((((decide (a0=b0)&&decide (a1=b1))&&decide (a2=b2))&&decide (a3=b3))&&decide (a4=b4))&&decide (a5=b5))&&decide (a6=b6))&&decide (a7=b7))&&decide (a8=b8))&&decide (a9=b9))&&decide (a10=b10)))) w:=o3 Tryz.underlying45 Tryz.stoodInHeld45 Tryz.eqGuardType45 (IU a0 b0 a1 b1 a2 b2 a3 b3 a4 b4 a5 b5 a6 b6 a7 b7 a8 b8 a9 b9 a10 b10) x y
theorem Fy:dO Tryz.prog 48 4:=⟨Tryz.isAgg48,Tryz.sizeOf48⟩
theorem IC:dh Tryz.prog 48 (Go.Value.agg #[Go.Value.int Go.IntKind.i64 0,Go.Value.int Go.IntKind.i64 0,Go.Value.int Go.IntKind.i64 0,Go.Value.int Go.IntKind.i64 0]):=Tryz.zeroValue48
theorem FL:FieldF Tryz.prog 48 1 1:=FieldF.of Tryz.runUnderlying48 rfl rfl Tryz.sizeOf3
theorem x6:FieldF Tryz.prog 48 2 2:=FieldF.of Tryz.runUnderlying48 rfl rfl Tryz.sizeOf2
theorem FK:FieldF Tryz.prog 48 3 3:=FieldF.of Tryz.runUnderlying48 rfl rfl Tryz.sizeOf2
theorem Gb:eG Tryz.prog 48 [Go.Value.int Go.IntKind.i64 0,Go.Value.int Go.IntKind.i64 0,Go.Value.int Go.IntKind.i64 0,Go.Value.int Go.IntKind.i64 0]:=⟨Tryz.zeroValue48,by simp[Value.oneCell'],_,Tryz.runUnderlying48,fun w=>by
 simp[Sem.run_bind,Result.andThen,Tryz.sizeOf2,Tryz.sizeOf3,List.range,List.range.loop]⟩
theorem IT(a0 b0:Int)(a1 b1:Int)(a2 b2:Int)(a3 b3:Int):∀w,(Op.eqFields 9999 #[.int .i64 a0,.int .i64 a1,.int .i64 a2,.int .i64 a3] #[.int .i64 b0,.int .i64 b1,.int .i64 b2,.int .i64 b3] (#[⟨ "Events",3,0,false, "", "",0⟩,⟨ "Calls",3,1,false, "", "",8⟩,⟨ "Turns",2,2,false, "", "",16⟩,⟨ "Time",2,3,false, "", "",24⟩]:Array Field).toList).run Tryz.prog w= .ok (((decide (a0=b0)&&decide (a1=b1))&&decide (a2=b2))&&decide (a3=b3)) w:=by
 intro w;simp[Op.eqFields,part,l7,run_equalIn_int (P:=Tryz.prog) _ 9998 3 _ _ _ _ Tryz.underlying3,run_equalIn_int (P:=Tryz.prog) _ 9998 3 _ _ _ _ Tryz.underlying3,run_equalIn_int (P:=Tryz.prog) _ 9998 2 _ _ _ _ Tryz.underlying2,run_equalIn_int (P:=Tryz.prog) _ 9998 2 _ _ _ _ Tryz.underlying2,Tryz.isAgg2,Tryz.isAgg3];by_cases h0:a0=b0<;>by_cases h1:a1=b1<;>by_cases h2:a2=b2<;>by_cases h3:a3=b3<;>simp[*]
theorem IZ(x y:Operand)(a0 b0:Int)(a1 b1:Int)(a2 b2:Int)(a3 b3:Int):∀w,(do eqGuard .eql 48 x y (.agg #[.int .i64 a0,.int .i64 a1,.int .i64 a2,.int .i64 a3]) (.agg #[.int .i64 b0,.int .i64 b1,.int .i64 b2,.int .i64 b3]);binOp .eql 48 (.agg #[.int .i64 a0,.int .i64 a1,.int .i64 a2,.int .i64 a3]) (.agg #[.int .i64 b0,.int .i64 b1,.int .i64 b2,.int .i64 b3]):Sem Value).run Tryz.prog w= .ok (.bool (((decide (a0=b0)&&decide (a1=b1))&&decide (a2=b2))&&decide (a3=b3))) w:=ym Tryz.underlying48 Tryz.stoodInHeld48 Tryz.eqGuardType48 (IT a0 b0 a1 b1 a2 b2 a3 b3) x y
theorem xQ:dP Tryz.prog 52:=⟨Tryz.isAgg52,Tryz.sizeOf52⟩
theorem Jj:dh Tryz.prog 52 (Go.Value.slice none 0 0):=Tryz.zeroValue52
theorem IF:IndexF Tryz.prog 52 1:=IndexF.of Tryz.runUnderlying52 Tryz.sizeOf5
theorem Hn:db Tryz.prog 52:=⟨_,Tryz.runUnderlying52⟩
theorem dm:AppF Tryz.prog 52 5 1:=⟨Tryz.underlying52,by kernel_rfl⟩
theorem eP:dP Tryz.prog 55:=⟨Tryz.isAgg55,Tryz.sizeOf55⟩
theorem iG:dO Tryz.prog 57 3:=⟨Tryz.isAgg57,Tryz.sizeOf57⟩
theorem Fv:dh Tryz.prog 57 (Go.Value.agg #[Go.Value.int Go.IntKind.i64 0,Go.Value.int Go.IntKind.i64 0,Go.Value.int Go.IntKind.i64 0]):=Tryz.zeroValue57
theorem dQ:FieldF Tryz.prog 57 0 0:=FieldF.of Tryz.runUnderlying57 rfl rfl Tryz.sizeOf3
theorem ei:FieldF Tryz.prog 57 1 1:=FieldF.of Tryz.runUnderlying57 rfl rfl Tryz.sizeOf2
theorem jK:FieldF Tryz.prog 57 2 2:=FieldF.of Tryz.runUnderlying57 rfl rfl Tryz.sizeOf2
theorem zh:eG Tryz.prog 57 [Go.Value.int Go.IntKind.i64 0,Go.Value.int Go.IntKind.i64 0,Go.Value.int Go.IntKind.i64 0]:=⟨Tryz.zeroValue57,by simp[Value.oneCell'],_,Tryz.runUnderlying57,fun w=>by
 simp[Sem.run_bind,Result.andThen,Tryz.sizeOf2,Tryz.sizeOf3,List.range,List.range.loop]⟩
theorem HC(a0 b0:Int)(a1 b1:Int)(a2 b2:Int):∀w,(Op.eqFields 9999 #[.int .i64 a0,.int .i64 a1,.int .i64 a2] #[.int .i64 b0,.int .i64 b1,.int .i64 b2] (#[⟨ "Kind",3,0,false, "", "",0⟩,⟨ "A",2,1,false, "", "",8⟩,⟨ "B",2,2,false, "", "",16⟩]:Array Field).toList).run Tryz.prog w= .ok ((decide (a0=b0)&&decide (a1=b1))&&decide (a2=b2)) w:=by
 intro w;simp[Op.eqFields,part,l7,run_equalIn_int (P:=Tryz.prog) _ 9998 3 _ _ _ _ Tryz.underlying3,run_equalIn_int (P:=Tryz.prog) _ 9998 2 _ _ _ _ Tryz.underlying2,run_equalIn_int (P:=Tryz.prog) _ 9998 2 _ _ _ _ Tryz.underlying2,Tryz.isAgg2,Tryz.isAgg3];by_cases h0:a0=b0<;>by_cases h1:a1=b1<;>by_cases h2:a2=b2<;>simp[*]
theorem IY(x y:Operand)(a0 b0:Int)(a1 b1:Int)(a2 b2:Int):∀w,(do eqGuard .eql 57 x y (.agg #[.int .i64 a0,.int .i64 a1,.int .i64 a2]) (.agg #[.int .i64 b0,.int .i64 b1,.int .i64 b2]);binOp .eql 57 (.agg #[.int .i64 a0,.int .i64 a1,.int .i64 a2]) (.agg #[.int .i64 b0,.int .i64 b1,.int .i64 b2]):Sem Value).run Tryz.prog w= .ok (.bool ((decide (a0=b0)&&decide (a1=b1))&&decide (a2=b2))) w:=ym Tryz.underlying57 Tryz.stoodInHeld57 Tryz.eqGuardType57 (HC a0 b0 a1 b1 a2 b2) x y
theorem HE(x y:Operand)(a0 b0:Int)(a1 b1:Int)(a2 b2:Int):∀w,(do eqGuard .neq 57 x y (.agg #[.int .i64 a0,.int .i64 a1,.int .i64 a2]) (.agg #[.int .i64 b0,.int .i64 b1,.int .i64 b2]);binOp .neq 57 (.agg #[.int .i64 a0,.int .i64 a1,.int .i64 a2]) (.agg #[.int .i64 b0,.int .i64 b1,.int .i64 b2]):Sem Value).run Tryz.prog w= .ok (.bool (!((decide (a0=b0)&&decide (a1=b1))&&decide (a2=b2)))) w:=o3 Tryz.underlying57 Tryz.stoodInHeld57 Tryz.eqGuardType57 (HC a0 b0 a1 b1 a2 b2) x y
theorem Iv:dP Tryz.prog 58:=⟨Tryz.isAgg58,Tryz.sizeOf58⟩
theorem Is:dh Tryz.prog 60 (Go.Value.agg #[Go.Value.pointer none,Go.Value.slice none 0 0]):=Tryz.zeroValue60
theorem x5:FieldF Tryz.prog 60 0 0:=FieldF.of Tryz.runUnderlying60 rfl rfl Tryz.sizeOf58
theorem kO:FieldF Tryz.prog 60 1 1:=FieldF.of Tryz.runUnderlying60 rfl rfl Tryz.sizeOf52
theorem rn:dP Tryz.prog 68:=⟨Tryz.isAgg68,Tryz.sizeOf68⟩
theorem Ir:dh Tryz.prog 68 (Go.Value.slice none 0 0):=Tryz.zeroValue68
theorem mR:IndexF Tryz.prog 68 2:=IndexF.of Tryz.runUnderlying68 Tryz.sizeOf73
theorem mS:db Tryz.prog 68:=⟨_,Tryz.runUnderlying68⟩
theorem fX:AppF Tryz.prog 68 73 2:=⟨Tryz.underlying68,by kernel_rfl⟩
theorem zf:jP Tryz.prog 68 2:=⟨_,Tryz.runUnderlying68,Tryz.sizeOf73⟩
theorem iF:dO Tryz.prog 73 2:=⟨Tryz.isAgg73,Tryz.sizeOf73⟩
theorem wA:dh Tryz.prog 73 (Go.Value.agg #[Go.Value.string (ByteArray.mk #[]),Go.Value.bool false]):=Tryz.zeroValue73
theorem dE:FieldF Tryz.prog 73 0 0:=FieldF.of Tryz.runUnderlying73 rfl rfl Tryz.sizeOf9
theorem gL:FieldF Tryz.prog 73 1 1:=FieldF.of Tryz.runUnderlying73 rfl rfl Tryz.sizeOf4
theorem wI:eG Tryz.prog 73 [Go.Value.string (ByteArray.mk #[]),Go.Value.bool false]:=⟨Tryz.zeroValue73,by simp[Value.oneCell'],_,Tryz.runUnderlying73,fun w=>by
 simp[Sem.run_bind,Result.andThen,Tryz.sizeOf4,Tryz.sizeOf9,List.range,List.range.loop]⟩
theorem IS(a0 b0:List UInt8)(a1 b1:Bool):∀w,(Op.eqFields 9999 #[.string ⟨a0.toArray⟩,.bool a1] #[.string ⟨b0.toArray⟩,.bool b1] (#[⟨ "S",9,0,false, "", "",0⟩,⟨ "Quoted",4,1,false, "", "",16⟩]:Array Field).toList).run Tryz.prog w= .ok (decide (a0=b0)&&decide (a1=b1)) w:=by
 intro w;simp[Op.eqFields,part,l7,run_equalIn_string (P:=Tryz.prog) _ 9998 9 _ _ Tryz.underlying9,run_equalIn_bool' (P:=Tryz.prog) _ 9998 4 _ _ Tryz.underlying4,Tryz.isAgg4,Tryz.isAgg9];by_cases h0:a0=b0<;>by_cases h1:a1=b1<;>simp[*]
theorem HD(x y:Operand)(a0 b0:List UInt8)(a1 b1:Bool):∀w,(do eqGuard .neq 73 x y (.agg #[.string ⟨a0.toArray⟩,.bool a1]) (.agg #[.string ⟨b0.toArray⟩,.bool b1]);binOp .neq 73 (.agg #[.string ⟨a0.toArray⟩,.bool a1]) (.agg #[.string ⟨b0.toArray⟩,.bool b1]):Sem Value).run Tryz.prog w= .ok (.bool (!(decide (a0=b0)&&decide (a1=b1)))) w:=o3 Tryz.underlying73 Tryz.stoodInHeld73 Tryz.eqGuardType73 (IS a0 b0 a1 b1) x y
theorem rH:dP Tryz.prog 75:=⟨Tryz.isAgg75,Tryz.sizeOf75⟩
theorem FV:IndexF Tryz.prog 75 5:=IndexF.of Tryz.runUnderlying75 Tryz.sizeOf141
theorem AD:db Tryz.prog 75:=⟨_,Tryz.runUnderlying75⟩
theorem zi:AppF Tryz.prog 75 141 5:=⟨Tryz.underlying75,by kernel_rfl⟩
theorem nS:dO Tryz.prog 77 2:=⟨Tryz.isAgg77,Tryz.sizeOf77⟩
theorem Dz:dh Tryz.prog 77 (Go.Value.agg #[Go.Value.slice none 0 0,Go.Value.slice none 0 0]):=Tryz.zeroValue77
theorem dz:FieldF Tryz.prog 77 0 0:=FieldF.of Tryz.runUnderlying77 rfl rfl Tryz.sizeOf25
theorem eK:FieldF Tryz.prog 77 1 1:=FieldF.of Tryz.runUnderlying77 rfl rfl Tryz.sizeOf75
theorem zg:eG Tryz.prog 77 [Go.Value.slice none 0 0,Go.Value.slice none 0 0]:=⟨Tryz.zeroValue77,by simp[Value.oneCell'],_,Tryz.runUnderlying77,fun w=>by
 simp[Sem.run_bind,Result.andThen,Tryz.sizeOf25,Tryz.sizeOf75,List.range,List.range.loop]⟩
theorem Hq:IndexF Tryz.prog 82 1:=IndexF.of Tryz.runUnderlying82 Tryz.sizeOf2
theorem Jb:db Tryz.prog 82:=⟨_,Tryz.runUnderlying82⟩
theorem Ge:AppF Tryz.prog 82 2 1:=⟨Tryz.underlying82,by kernel_rfl⟩
theorem IM:jP Tryz.prog 82 1:=⟨_,Tryz.runUnderlying82,Tryz.sizeOf2⟩
theorem rI:IndexF Tryz.prog 84 5:=IndexF.of Tryz.runUnderlying84 Tryz.sizeOf88
theorem Jm:db Tryz.prog 84:=⟨_,Tryz.runUnderlying84⟩
theorem I2:AppF Tryz.prog 84 88 5:=⟨Tryz.underlying84,by kernel_rfl⟩
theorem Iu:dP Tryz.prog 86:=⟨Tryz.isAgg86,Tryz.sizeOf86⟩
theorem tY:dO Tryz.prog 88 5:=⟨Tryz.isAgg88,Tryz.sizeOf88⟩
theorem DE:dh Tryz.prog 88 (Go.Value.agg #[Go.Value.string (ByteArray.mk #[]),Go.Value.int Go.IntKind.i64 0,Go.Value.int Go.IntKind.i64 0,Go.Value.int Go.IntKind.i64 0,Go.Value.nilFunc]):=Tryz.zeroValue88
theorem jv:FieldF Tryz.prog 88 0 0:=FieldF.of Tryz.runUnderlying88 rfl rfl Tryz.sizeOf9
theorem fV:FieldF Tryz.prog 88 3 3:=FieldF.of Tryz.runUnderlying88 rfl rfl Tryz.sizeOf3
theorem x4:FieldF Tryz.prog 88 4 4:=FieldF.of Tryz.runUnderlying88 rfl rfl Tryz.sizeOf86
theorem Ga:eG Tryz.prog 88 [Go.Value.string (ByteArray.mk #[]),Go.Value.int Go.IntKind.i64 0,Go.Value.int Go.IntKind.i64 0,Go.Value.int Go.IntKind.i64 0,Go.Value.nilFunc]:=⟨Tryz.zeroValue88,by simp[Value.oneCell'],_,Tryz.runUnderlying88,fun w=>by
 simp[Sem.run_bind,Result.andThen,Tryz.sizeOf2,Tryz.sizeOf3,Tryz.sizeOf9,Tryz.sizeOf86,List.range,List.range.loop]⟩
theorem Jo:IndexF Tryz.prog 92 1:=IndexF.of Tryz.runUnderlying92 Tryz.sizeOf68
theorem Jl:db Tryz.prog 92:=⟨_,Tryz.runUnderlying92⟩
theorem DQ:AppF Tryz.prog 92 68 1:=⟨Tryz.underlying92,by kernel_rfl⟩
theorem Fx:dP Tryz.prog 95:=⟨Tryz.isAgg95,Tryz.sizeOf95⟩
theorem wx:IndexF Tryz.prog 95 1:=IndexF.of Tryz.runUnderlying95 Tryz.sizeOf9
theorem pc:db Tryz.prog 95:=⟨_,Tryz.runUnderlying95⟩
theorem iL:AppF Tryz.prog 95 9 1:=⟨Tryz.underlying95,by kernel_rfl⟩
theorem ze:jP Tryz.prog 95 1:=⟨_,Tryz.runUnderlying95,Tryz.sizeOf9⟩
theorem Jn:dP Tryz.prog 99:=⟨Tryz.isAgg99,Tryz.sizeOf99⟩
theorem jQ:FieldF Tryz.prog 101 0 0:=FieldF.of Tryz.runUnderlying101 rfl rfl Tryz.sizeOf95
theorem dK:FieldF Tryz.prog 101 1 1:=FieldF.of Tryz.runUnderlying101 rfl rfl Tryz.sizeOf3
theorem Hf:FieldF Tryz.prog 101 2 2:=FieldF.of Tryz.runUnderlying101 rfl rfl Tryz.sizeOf99
theorem Im:eG Tryz.prog 101 [Go.Value.slice none 0 0,Go.Value.int Go.IntKind.i64 0,Go.Value.map none]:=⟨Tryz.zeroValue101,by simp[Value.oneCell'],_,Tryz.runUnderlying101,fun w=>by
 simp[Sem.run_bind,Result.andThen,Tryz.sizeOf3,Tryz.sizeOf95,Tryz.sizeOf99,List.range,List.range.loop]⟩
theorem ct:dO Tryz.prog 121 10:=⟨Tryz.isAgg121,Tryz.sizeOf121⟩
theorem zc:dh Tryz.prog 121 (Go.Value.agg #[Go.Value.int Go.IntKind.i64 0,Go.Value.int Go.IntKind.u64 0,Go.Value.int Go.IntKind.u32 0,Go.Value.int Go.IntKind.u32 0,Go.Value.string (ByteArray.mk #[]),Go.Value.string (ByteArray.mk #[]),Go.Value.int Go.IntKind.i64 0,Go.Value.int Go.IntKind.i64 0,Go.Value.int Go.IntKind.i64 0,Go.Value.int Go.IntKind.i64 0]):=Tryz.zeroValue121
theorem ld:FieldF Tryz.prog 121 0 0:=FieldF.of Tryz.runUnderlying121 rfl rfl Tryz.sizeOf3
theorem wZ:FieldF Tryz.prog 121 1 1:=FieldF.of Tryz.runUnderlying121 rfl rfl Tryz.sizeOf55
theorem BG:FieldF Tryz.prog 121 2 2:=FieldF.of Tryz.runUnderlying121 rfl rfl Tryz.sizeOf43
theorem BF:FieldF Tryz.prog 121 3 3:=FieldF.of Tryz.runUnderlying121 rfl rfl Tryz.sizeOf43
theorem pN:FieldF Tryz.prog 121 4 4:=FieldF.of Tryz.runUnderlying121 rfl rfl Tryz.sizeOf9
theorem hM:FieldF Tryz.prog 121 5 5:=FieldF.of Tryz.runUnderlying121 rfl rfl Tryz.sizeOf9
theorem BE:FieldF Tryz.prog 121 6 6:=FieldF.of Tryz.runUnderlying121 rfl rfl Tryz.sizeOf3
theorem BD:FieldF Tryz.prog 121 7 7:=FieldF.of Tryz.runUnderlying121 rfl rfl Tryz.sizeOf3
theorem BC:FieldF Tryz.prog 121 8 8:=FieldF.of Tryz.runUnderlying121 rfl rfl Tryz.sizeOf3
theorem BB:FieldF Tryz.prog 121 9 9:=FieldF.of Tryz.runUnderlying121 rfl rfl Tryz.sizeOf3
theorem A7:eG Tryz.prog 121 [Go.Value.int Go.IntKind.i64 0,Go.Value.int Go.IntKind.u64 0,Go.Value.int Go.IntKind.u32 0,Go.Value.int Go.IntKind.u32 0,Go.Value.string (ByteArray.mk #[]),Go.Value.string (ByteArray.mk #[]),Go.Value.int Go.IntKind.i64 0,Go.Value.int Go.IntKind.i64 0,Go.Value.int Go.IntKind.i64 0,Go.Value.int Go.IntKind.i64 0]:=⟨Tryz.zeroValue121,by simp[Value.oneCell'],_,Tryz.runUnderlying121,fun w=>by
 simp[Sem.run_bind,Result.andThen,Tryz.sizeOf3,Tryz.sizeOf9,Tryz.sizeOf43,Tryz.sizeOf55,List.range,List.range.loop]⟩
theorem mZ:dO Tryz.prog 141 5:=⟨Tryz.isAgg141,Tryz.sizeOf141⟩
theorem F5:dh Tryz.prog 141 (Go.Value.agg #[Go.Value.int Go.IntKind.u32 0,Go.Value.int Go.IntKind.u64 0,Go.Value.int Go.IntKind.u64 0,Go.Value.int Go.IntKind.i64 0,Go.Value.int Go.IntKind.i64 0]):=Tryz.zeroValue141
theorem pM:FieldF Tryz.prog 141 0 0:=FieldF.of Tryz.runUnderlying141 rfl rfl Tryz.sizeOf43
theorem wY:FieldF Tryz.prog 141 1 1:=FieldF.of Tryz.runUnderlying141 rfl rfl Tryz.sizeOf55
theorem pL:FieldF Tryz.prog 141 2 2:=FieldF.of Tryz.runUnderlying141 rfl rfl Tryz.sizeOf55
theorem k9:FieldF Tryz.prog 141 3 3:=FieldF.of Tryz.runUnderlying141 rfl rfl Tryz.sizeOf3
theorem wX:FieldF Tryz.prog 141 4 4:=FieldF.of Tryz.runUnderlying141 rfl rfl Tryz.sizeOf2
theorem Ie(a0 b0:Int)(a1 b1:Int)(a2 b2:Int)(a3 b3:Int)(a4 b4:Int):∀w,(Op.eqFields 9999 #[.int .u32 a0,.int .u64 a1,.int .u64 a2,.int .i64 a3,.int .i64 a4] #[.int .u32 b0,.int .u64 b1,.int .u64 b2,.int .i64 b3,.int .i64 b4] (#[⟨ "Seat",43,0,false, "", "",0⟩,⟨ "Serial",55,1,false, "", "",8⟩,⟨ "Epoch",55,2,false, "", "",16⟩,⟨ "Gate",3,3,false, "", "",24⟩,⟨ "Time",2,4,false, "", "",32⟩]:Array Field).toList).run Tryz.prog w= .ok ((((decide (a0=b0)&&decide (a1=b1))&&decide (a2=b2))&&decide (a3=b3))&&decide (a4=b4)) w:=by
 intro w;simp[Op.eqFields,part,l7,run_equalIn_int (P:=Tryz.prog) _ 9998 43 _ _ _ _ Tryz.underlying43,run_equalIn_int (P:=Tryz.prog) _ 9998 55 _ _ _ _ Tryz.underlying55,run_equalIn_int (P:=Tryz.prog) _ 9998 55 _ _ _ _ Tryz.underlying55,run_equalIn_int (P:=Tryz.prog) _ 9998 3 _ _ _ _ Tryz.underlying3,run_equalIn_int (P:=Tryz.prog) _ 9998 2 _ _ _ _ Tryz.underlying2,Tryz.isAgg2,Tryz.isAgg3,Tryz.isAgg43,Tryz.isAgg55];by_cases h0:a0=b0<;>by_cases h1:a1=b1<;>by_cases h2:a2=b2<;>by_cases h3:a3=b3<;>by_cases h4:a4=b4<;>simp[*]
theorem Ig(x y:Operand)(a0 b0:Int)(a1 b1:Int)(a2 b2:Int)(a3 b3:Int)(a4 b4:Int):∀w,(do eqGuard .neq 141 x y (.agg #[.int .u32 a0,.int .u64 a1,.int .u64 a2,.int .i64 a3,.int .i64 a4]) (.agg #[.int .u32 b0,.int .u64 b1,.int .u64 b2,.int .i64 b3,.int .i64 b4]);binOp .neq 141 (.agg #[.int .u32 a0,.int .u64 a1,.int .u64 a2,.int .i64 a3,.int .i64 a4]) (.agg #[.int .u32 b0,.int .u64 b1,.int .u64 b2,.int .i64 b3,.int .i64 b4]):Sem Value).run Tryz.prog w= .ok (.bool (!((((decide (a0=b0)&&decide (a1=b1))&&decide (a2=b2))&&decide (a3=b3))&&decide (a4=b4)))) w:=o3 Tryz.underlying141 Tryz.stoodInHeld141 Tryz.eqGuardType141 (Ie a0 b0 a1 b1 a2 b2 a3 b3 a4 b4) x y
theorem Gf:dO Tryz.prog 143 3:=⟨Tryz.isAgg143,Tryz.sizeOf143⟩
theorem HB:dh Tryz.prog 143 (Go.Value.agg #[Go.Value.int Go.IntKind.u64 0,Go.Value.int Go.IntKind.u64 0,Go.Value.int Go.IntKind.u64 0]):=Tryz.zeroValue143
theorem F9:IndexAF Tryz.prog 143 3 1:=IndexAF.of Tryz.runUnderlying143 Tryz.sizeOf55
theorem Ij:s8 Tryz.prog 143 (List.replicate 3 (Go.Value.int Go.IntKind.u64 0)):=⟨Tryz.zeroValue143,3,55,Tryz.runUnderlying143,Tryz.sizeOf55⟩
theorem FN:Gd Tryz.prog 143 3:=⟨55,Tryz.runUnderlying143,Tryz.sizeOf55⟩
theorem AJ:IndexF Tryz.prog 145 1:=IndexF.of Tryz.runUnderlying145 Tryz.sizeOf55
theorem AI:db Tryz.prog 145:=⟨_,Tryz.runUnderlying145⟩
theorem A8:AppF Tryz.prog 145 55 1:=⟨Tryz.underlying145,by kernel_rfl⟩
theorem I3:dO Tryz.prog 152 10:=⟨Tryz.isAgg152,Tryz.sizeOf152⟩
theorem HA:dh Tryz.prog 152 (Go.Value.agg #[Go.Value.int Go.IntKind.i64 0,Go.Value.int Go.IntKind.i64 0,Go.Value.int Go.IntKind.i64 0,Go.Value.int Go.IntKind.i64 0,Go.Value.int Go.IntKind.i64 0,Go.Value.int Go.IntKind.i64 0,Go.Value.int Go.IntKind.i64 0,Go.Value.int Go.IntKind.i64 0,Go.Value.int Go.IntKind.i64 0,Go.Value.int Go.IntKind.i64 0]):=Tryz.zeroValue152
theorem lR:IndexAF Tryz.prog 152 10 1:=IndexAF.of Tryz.runUnderlying152 Tryz.sizeOf2
theorem Ii:s8 Tryz.prog 152 (List.replicate 10 (Go.Value.int Go.IntKind.i64 0)):=⟨Tryz.zeroValue152,10,2,Tryz.runUnderlying152,Tryz.sizeOf2⟩
theorem F8:IndexF Tryz.prog 180 3:=IndexF.of Tryz.runUnderlying180 Tryz.sizeOf221
theorem F7:db Tryz.prog 180:=⟨_,Tryz.runUnderlying180⟩
theorem FR:AppF Tryz.prog 180 221 3:=⟨Tryz.underlying180,by kernel_rfl⟩
theorem DP:IndexF Tryz.prog 183 5:=IndexF.of Tryz.runUnderlying183 Tryz.sizeOf225
theorem DN:db Tryz.prog 183:=⟨_,Tryz.runUnderlying183⟩
theorem FQ:AppF Tryz.prog 183 225 5:=⟨Tryz.underlying183,by kernel_rfl⟩
theorem IQ:db Tryz.prog 203:=⟨_,Tryz.runUnderlying203⟩
theorem FP:AppF Tryz.prog 203 247 3:=⟨Tryz.underlying203,by kernel_rfl⟩
theorem IV:dP Tryz.prog 218:=⟨Tryz.isAgg218,Tryz.sizeOf218⟩
theorem cT:dO Tryz.prog 221 3:=⟨Tryz.isAgg221,Tryz.sizeOf221⟩
theorem ui:dh Tryz.prog 221 (Go.Value.agg #[Go.Value.int Go.IntKind.i64 0,Go.Value.int Go.IntKind.u64 0,Go.Value.string (ByteArray.mk #[])]):=Tryz.zeroValue221
theorem m8:FieldF Tryz.prog 221 0 0:=FieldF.of Tryz.runUnderlying221 rfl rfl Tryz.sizeOf3
theorem eV:FieldF Tryz.prog 221 1 1:=FieldF.of Tryz.runUnderlying221 rfl rfl Tryz.sizeOf55
theorem iP:FieldF Tryz.prog 221 2 2:=FieldF.of Tryz.runUnderlying221 rfl rfl Tryz.sizeOf9
theorem Il:eG Tryz.prog 221 [Go.Value.int Go.IntKind.i64 0,Go.Value.int Go.IntKind.u64 0,Go.Value.string (ByteArray.mk #[])]:=⟨Tryz.zeroValue221,by simp[Value.oneCell'],_,Tryz.runUnderlying221,fun w=>by
 simp[Sem.run_bind,Result.andThen,Tryz.sizeOf3,Tryz.sizeOf9,Tryz.sizeOf55,List.range,List.range.loop]⟩
theorem ch:dO Tryz.prog 225 5:=⟨Tryz.isAgg225,Tryz.sizeOf225⟩
theorem ph:dh Tryz.prog 225 (Go.Value.agg #[Go.Value.int Go.IntKind.i64 0,Go.Value.int Go.IntKind.i64 0,Go.Value.int Go.IntKind.u64 0,Go.Value.int Go.IntKind.u64 0,Go.Value.bool false]):=Tryz.zeroValue225
theorem m7:FieldF Tryz.prog 225 0 0:=FieldF.of Tryz.runUnderlying225 rfl rfl Tryz.sizeOf3
theorem fR:FieldF Tryz.prog 225 1 1:=FieldF.of Tryz.runUnderlying225 rfl rfl Tryz.sizeOf3
theorem hJ:FieldF Tryz.prog 225 2 2:=FieldF.of Tryz.runUnderlying225 rfl rfl Tryz.sizeOf55
theorem Bx:∀(vs:Array Value) (v:Value) (w:World),vs[2]?=some v→(Instr.field 225 (.agg vs) 2).run Tryz.prog w= .ok v w:=fun vs v w h=>by simp[Instr.field,Tryz.runUnderlying225,part,Tryz.isAgg55,asAgg,h]
theorem eU:FieldF Tryz.prog 225 3 3:=FieldF.of Tryz.runUnderlying225 rfl rfl Tryz.sizeOf55
theorem G9:∀(vs:Array Value) (v:Value) (w:World),vs[3]?=some v→(Instr.field 225 (.agg vs) 3).run Tryz.prog w= .ok v w:=fun vs v w h=>by simp[Instr.field,Tryz.runUnderlying225,part,Tryz.isAgg55,asAgg,h]
theorem He:FieldF Tryz.prog 225 4 4:=FieldF.of Tryz.runUnderlying225 rfl rfl Tryz.sizeOf4
theorem FM:eG Tryz.prog 225 [Go.Value.int Go.IntKind.i64 0,Go.Value.int Go.IntKind.i64 0,Go.Value.int Go.IntKind.u64 0,Go.Value.int Go.IntKind.u64 0,Go.Value.bool false]:=⟨Tryz.zeroValue225,by simp[Value.oneCell'],_,Tryz.runUnderlying225,fun w=>by
 simp[Sem.run_bind,Result.andThen,Tryz.sizeOf3,Tryz.sizeOf4,Tryz.sizeOf55,List.range,List.range.loop]⟩
theorem rz:dO Tryz.prog 239 2:=⟨Tryz.isAgg239,Tryz.sizeOf239⟩
theorem ry:dh Tryz.prog 239 (Go.Value.agg #[Go.Value.int Go.IntKind.u8 0,Go.Value.int Go.IntKind.u8 0]):=Tryz.zeroValue239
theorem hI:FieldF Tryz.prog 239 0 0:=FieldF.of Tryz.runUnderlying239 rfl rfl Tryz.sizeOf5
theorem gZ:FieldF Tryz.prog 239 1 1:=FieldF.of Tryz.runUnderlying239 rfl rfl Tryz.sizeOf5
theorem HI:dO Tryz.prog 240 10:=⟨Tryz.isAgg240,Tryz.sizeOf240⟩
theorem kN:y4 Tryz.prog 240 5 2:=⟨239,Tryz.runUnderlying240,Tryz.isAgg239,Tryz.sizeOf239⟩
theorem Ik:eG Tryz.prog 247 [Go.Value.int Go.IntKind.i64 0,Go.Value.int Go.IntKind.i64 0,Go.Value.int Go.IntKind.i64 0]:=⟨Tryz.zeroValue247,by simp[Value.oneCell'],_,Tryz.runUnderlying247,fun w=>by
 simp[Sem.run_bind,Result.andThen,Tryz.sizeOf3,List.range,List.range.loop]⟩
theorem IX:IndexAF Tryz.prog 262 14 1:=IndexAF.of Tryz.runUnderlying262 Tryz.sizeOf218
theorem IW:IndexF Tryz.prog 293 2:=IndexF.of Tryz.runUnderlying293 Tryz.sizeOf294
theorem IP:db Tryz.prog 293:=⟨_,Tryz.runUnderlying293⟩
theorem FO:AppF Tryz.prog 293 294 2:=⟨Tryz.underlying293,by kernel_rfl⟩
theorem HH:dO Tryz.prog 294 2:=⟨Tryz.isAgg294,Tryz.sizeOf294⟩
theorem IL:dh Tryz.prog 294 (Go.Value.agg #[Go.Value.string (ByteArray.mk #[]),Go.Value.string (ByteArray.mk #[])]):=Tryz.zeroValue294
theorem HF:IndexAF Tryz.prog 294 2 1:=IndexAF.of Tryz.runUnderlying294 Tryz.sizeOf9
theorem Ih:s8 Tryz.prog 294 (List.replicate 2 (Go.Value.string (ByteArray.mk #[]))):=⟨Tryz.zeroValue294,2,9,Tryz.runUnderlying294,Tryz.sizeOf9⟩
structure Rule where
 tag:Int
 kind:Int
 low:Int
 high:Int
 must:Bool
instance:Inhabited Rule:=⟨⟨0,0,0,0,false⟩⟩
def Rule.c(r:Rule):List SV:=[.val (.int .i64 r.tag),.val (.int .i64 r.kind),.val (.int .u64 r.low),.val (.int .u64 r.high),.val (.bool r.must)]
def pF(r:Rule)(n:Int):Bool:=decide (r.low≤n)&&decide (n≤r.high)
theorem ma(ru:Rule)(x:Int):PC Tryz.prog 198 [.agg (ru.c.map LV.sv),.u x] (.b (pF ru x)):=by
 refine⟨LC.of_go Tryz.func198 (c:=_) rfl (by kernel_rfl) (by rw[Tryz.ntmps198];simp) rfl rfl (by simp) (by simp) ?_⟩;intro B hA hmd;refine LGo.seq (LGo.region rfl (bg (h:=aa (h:=Reg.nil ⟨fun h=>(by cases h),LGo.seq (LGo.region rfl (ae (h:=af hJ (h:=ag eP (h:=ah (bh _ _ _ _ _ _) (h:=ae (h:=ae (h:=af eU (h:=?_)))))))))⟩))));refine ag eP (h:=ah (cb _ _ _ _ _ _) (h:=aT (h:=aa (h:=Reg.nil ⟨fun h=>(by cases h),LGo.drop 0 (fun o h=>(hA o).1 h) (by omega) [(4,(true,.b (pF ru x)))] [] ⟨rfl,trivial⟩ trivial (by simp[LV.lt]) (by simp) (h:=?_)⟩))));exact LGo.ret (lM Tryz.results198 hA hmd (by rfl) jC (by rfl) (.inr rfl))
def dM(last:Int):List Rule→Int
 |[]=>0
 |r::rs=>if(decide (r.tag≤last)||decide (63<r.tag)||decide (r.high<r.low))=true then 2 else if r.kind=1 then dM r.tag rs else if(!decide (r.kind=2)||decide (400<r.high))=true then 2 else dM r.tag rs
def ig(rs:List Rule):Int:=if 16<rs.length then 3 else dM 0 rs
theorem Ff(xs:List Rule):PC Tryz.prog 161 [.sv (.sl 5 (xs.map Rule.c))] (.i (ig xs)):=by
 refine⟨LC.of_go Tryz.func161 (c:=_) rfl (by kernel_rfl) (by rw[Tryz.ntmps161];simp) rfl rfl (by simp) (by simp) ?_⟩;intro B hA hmd;refine LGo.seq (LGo.region rfl (aa (h:=Reg.nil ⟨fun h=>(by cases h),LGo.seq (LGo.seq (LGo.region rfl (ae (h:=aF DN (h:=ah (aJ _ _ _ _ _ _) (h:=Reg.nil ⟨fun h=>(by cases h),?_⟩))))))⟩)));rw[List.length_map];refine ao (ht:=fun hc=>?_) (hf:=fun hc=>?_);refine LGo.seq (LGo.region rfl (aa (h:=Reg.nil ⟨fun h=>(by cases h),?_⟩)));have e:ig xs=3:=by unfold ig;rw[if_pos (by omega)]
 rw[e];exact LGo.ret (lM Tryz.results161 hA hmd (by rfl) jC (by rfl) (.inr rfl));refine LGo.skip (LGo.seq (LGo.region rfl (aa (h:=Reg.nil ⟨fun h=>(by cases h),LGo.seq (LGo.seq (LGo.region rfl (ae (h:=aF DN (h:=ae (h:=Reg.nil ⟨fun h=>(by cases h),LGo.block (LGo.loop ?_)⟩))))))⟩))));have e:ig xs=dM 0 xs:=by unfold ig;rw[if_neg (by omega)]
 rw[e];rw[List.length_map];refine LGo.keep [(3,(true,.i 0)),(9,(true,.sv (.sl 5 (xs.map Rule.c)))),(10,(true,.i xs.length)),(11,(true,.i (0:Nat)))] [] ⟨rfl,rfl,rfl,rfl,trivial⟩ trivial ?_;refine gq (σ:=Nat×Int) (fun x=>x.1≤xs.length∧dM 0 xs=dM x.2 (xs.drop x.1))
  (fun x=>[(3,(true,.i x.2)),(9,(true,.sv (.sl 5 (xs.map Rule.c)))),(10,(true,.i xs.length)),(11,(true,.i x.1))]) (fun _=>[]) (fun _=>0) (fun x=>xs.length-x.1) (0,0) ⟨by simp,by simp⟩ ?_
 rintro⟨k,last⟩ ⟨hk,hq⟩ ih;simp only at hk hq ih⊢;refine LGo.seq (LGo.region rfl (ah (au _ _ _ _ _ _) (h:=Reg.nil ⟨fun h=>(by cases h),LGo.seq ?_⟩)));refine ao (ht:=fun hc=>?_) (hf:=fun hc=>?_);have hlt:k<xs.length:=by omega
 have hx:(xs.map Rule.c)[((k:Nat):Int).toNat]?=some (xs[k].c):=by simp[hlt]
 have hd:xs.drop k=xs[k]::xs.drop (k+1):=List.drop_eq_getElem_cons hlt;rw[hd]at hq;generalize xs[k]=ru at hx hq;clear hd;refine LGo.skip (LGo.seq (LGo.block (LGo.seq (LGo.region rfl (aw DP (hj:=fun _=>⟨by omega,hx⟩) (h:=aR ch (h:=aD ph (h:=ar ch (h:=Reg.nil ⟨fun h=>(by cases h),LGo.seq (LGo.block (LGo.seq (LGo.region rfl ?_)))⟩)))))))));refine af m7 (h:=ag O3 (h:=ae (h:=ah (cb _ _ _ _ _ _) (h:=ae (h:=af m7 (h:=ag O3 (h:=ah (aJ _ _ _ _ _ _) (h:=aX (h:=ae (h:=af hJ (h:=ag eP (h:=af eU (h:=ag eP (h:=?_))))))))))))));refine ah (aJ _ _ _ _ _ _) (h:=aX (h:=aa (h:=Reg.nil ⟨fun h=>(by cases h),?_⟩)));refine aj (ht:=fun hc1=>?_) (hf:=fun hc1=>?_);refine LGo.seq (LGo.region rfl (aa (h:=Reg.nil ⟨fun h=>(by cases h),?_⟩)));rw[hq,dM,if_pos hc1];refine LGo.drop 0 (fun o h=>(hA o).1 h) (by omega) [(2,(true,.i 2))] [] ⟨rfl,trivial⟩ trivial (by simp[LV.lt]) (by simp) (h:=?_);exact LGo.ret (lM Tryz.results161 hA hmd (by rfl) jC (by rfl) (.inr rfl));rw[dM,if_neg (by rw[hc1];simp)]at hq;refine LGo.seq (LGo.region rfl (af fR (h:=ag O3 (h:=ah (av _ _ _ _ _ _) (h:=aa (h:=Reg.nil ⟨fun h=>(by cases h),?_⟩))))));refine ao (ht:=fun hc2=>?_) (hf:=fun hc2=>?_);rw[if_pos hc2]at hq;refine LGo.skip (LGo.inBlock (LGo.region rfl (af m7 (h:=ag O3 (h:=aa (h:=Reg.nil ⟨fun h=>(by cases h),LGo.inBlock (LGo.region rfl (aG (h:=ae (h:=Reg.nil ⟨fun h=>(by cases h),LGo.inLoop ?_⟩))))⟩))))));exact LGo.next 0 (fun o h=>(hA o).1 h) (by omega) (ih (k+1,ru.tag) ⟨by omega,hq⟩ (by simp;omega)) ⟨rfl,rfl,rfl,rfl,trivial⟩ trivial;rw[if_neg hc2]at hq;refine LGo.seq (LGo.region rfl (af fR (h:=ag O3 (h:=ah (aC _ _ _ _ _ _) (h:=ae (h:=af eU (h:=ag eP (h:=ah (aJ _ _ _ _ _ _) (h:=aX (h:=aa (h:=Reg.nil ⟨fun h=>(by cases h),?_⟩)))))))))));refine aj (ht:=fun hc3=>?_) (hf:=fun hc3=>?_);rw[if_pos hc3]at hq;refine LGo.seq (LGo.region rfl (aa (h:=Reg.nil ⟨fun h=>(by cases h),?_⟩)));rw[hq];refine LGo.drop 0 (fun o h=>(hA o).1 h) (by omega) [(2,(true,.i 2))] [] ⟨rfl,trivial⟩ trivial (by simp[LV.lt]) (by simp) (h:=?_);exact LGo.ret (lM Tryz.results161 hA hmd (by rfl) jC (by rfl) (.inr rfl));rw[if_neg (by rw[hc3];simp)]at hq;refine LGo.skip (LGo.inBlock (LGo.region rfl (af m7 (h:=ag O3 (h:=aa (h:=Reg.nil ⟨fun h=>(by cases h),LGo.inBlock (LGo.region rfl (aG (h:=ae (h:=Reg.nil ⟨fun h=>(by cases h),LGo.inLoop ?_⟩))))⟩))))));exact LGo.next 0 (fun o h=>(hA o).1 h) (by omega) (ih (k+1,ru.tag) ⟨by omega,hq⟩ (by simp;omega)) ⟨rfl,rfl,rfl,rfl,trivial⟩ trivial;refine LGo.exit rfl (LGo.seq (LGo.region rfl (aa (h:=Reg.nil ⟨fun h=>(by cases h),?_⟩))));have hd:xs.drop k=[]:=List.drop_eq_nil_of_le (by omega);rw[hq,hd,dM];exact LGo.ret (lM Tryz.results161 hA hmd (by rfl) jC (by rfl) (.inr rfl))
def bits(n:Nat):Nat:=if n=0 then 0 else Nat.log2 n+1
theorem xJ(n k:Nat)(h:2^k≤n):bits (n/2^k)+k=bits n:=by
 have h0:n≠0:=by have:=Nat.two_pow_pos k;omega
 have h1:n/2^k≠0:=by
  have:=Nat.div_pos h (Nat.two_pow_pos k);omega
 unfold bits;rw[if_neg h0,if_neg h1];have:Nat.log2 (n/2^k)=Nat.log2 n-k:=by
  have hk:k≤Nat.log2 n:=(Nat.le_log2 h0).2 h;apply Nat.le_antisymm;rw[←Nat.lt_succ_iff,Nat.log2_lt h1,Nat.div_lt_iff_lt_mul (Nat.two_pow_pos k),←Nat.pow_add];have:=Nat.lt_log2_self (n:=n);rw[show(Nat.log2 n-k).succ+k=Nat.log2 n+1 from by omega];exact this;rw[Nat.le_log2 h1,Nat.le_div_iff_mul_le (Nat.two_pow_pos k),←Nat.pow_add,show Nat.log2 n-k+k=Nat.log2 n from by omega];exact(Nat.le_log2 h0).1 (Nat.le_refl _)
 rw[this];have hk:k≤Nat.log2 n:=(Nat.le_log2 h0).2 h;omega
theorem j7(x:Int)(k:Nat)(h0:0≤x)(h:(2:Int)^k≤x):(bits (x/2^k).toNat:Int)+k=bits x.toNat:=by
 have h1:((x/2^k).toNat:Nat)=x.toNat/2^k:=by
  obtain⟨m,rfl⟩:=Int.eq_ofNat_of_zero_le h0
  norm_cast
 rw[h1];have h2:2^k≤x.toNat:=by
  have:((2^k:Nat):Int)≤x:=by push_cast;exact h
  omega
 have:=xJ x.toNat k h2;omega
theorem tD(n k:Nat)(h:n<2^k):bits n≤k:=by
 unfold bits;split;omega;rename_i h0;have:=(Nat.log2_lt h0).2 h;omega
def wQ:List UInt8:=((List.range 256).map fun n=>UInt8.ofNat (bits n))
theorem xu(n:Nat)(h:n<256):wQ[n]?=some (UInt8.ofNat (bits n)):=by
 simp[wQ,h]
theorem EI(x:Int)(h0:0≤x)(h1:x<18446744073709551616):PC Tryz.prog 203 [.u x] (.i (bits x.toNat)):=by
 refine⟨LC.of_go Tryz.func203 (c:=_) rfl (by kernel_rfl) (by rw[Tryz.ntmps203];simp) rfl rfl (by simp) (by simp) ?_⟩;intro B hA hmd;refine LGo.seq (LGo.region rfl (aa (h:=Reg.nil ⟨fun h=>(by cases h),LGo.seq ?_⟩)));refine LGo.split (α:=Int×Int) (fun a=>st [(0,(true,.u a.1)),(2,(true,.i a.2))] [] 0) (fun a=>0≤a.1∧a.1<4294967296∧0≤a.2∧a.2≤32∧a.2+bits a.1.toNat=bits x.toNat) ?_ (fun J=>?_);rintro⟨y,acc⟩ ⟨k0,k1,k2,k3,k4⟩;simp only at k0 k1 k2 k3 k4⊢;refine LGo.seq ?_;refine LGo.split (α:=Int×Int) (fun a=>st [(0,(true,.u a.1)),(2,(true,.i a.2))] [] 0) (fun a=>0≤a.1∧a.1<65536∧0≤a.2∧a.2≤48∧a.2+bits a.1.toNat=bits x.toNat) ?_ (fun J=>?_);rintro⟨z,acc⟩ ⟨k0,k1,k2,k3,k4⟩;simp only at k0 k1 k2 k3 k4⊢;refine LGo.seq ?_;refine LGo.split (α:=Int×Int) (fun a=>st [(0,(true,.u a.1)),(2,(true,.i a.2))] [] 0) (fun a=>0≤a.1∧a.1<256∧0≤a.2∧a.2≤56∧a.2+bits a.1.toNat=bits x.toNat) ?_ (fun J=>?_);rintro⟨u,acc⟩ ⟨k0,k1,k2,k3,k4⟩;simp only at k0 k1 k2 k3 k4⊢;have hb:=tD u.toNat 8 (by omega);have hun:u.toNat<256:=by omega
 have hut:((UInt8.ofNat (bits u.toNat)).toNat:Int)=bits u.toNat:=by
  simp only[UInt8.toNat_ofNat'];omega
 refine LGo.seq (LGo.region rfl (ae (h:=ae (h:=bS Tryz.runUnderlying55 Tryz.runUnderlying5 (h:=Dp Tryz.runUnderlying9 (c:=UInt8.ofNat (bits u.toNat)) (hj:=⟨by omega,(congrArg (fun l:List UInt8=>l[u.toNat]?) (show _=wQ by kernel_rfl)).trans (xu u.toNat hun)⟩) (h:=?_))))));rw[hut];refine bS Tryz.runUnderlying5 Tryz.runUnderlying3 (h:=aG (h:=aa (h:=Reg.nil ⟨fun h=>(by cases h),?_⟩)));rw[k4];exact LGo.ret (lM Tryz.results203 hA hmd (by rfl) jC (by rfl) (.inr rfl));refine LGo.seq (LGo.region rfl (ae (h:=ah (bh _ _ _ _ _ _) (h:=Reg.nil ⟨fun h=>(by cases h),?_⟩))));refine ao (ht:=fun hc=>?_) (hf:=fun hc=>?_);have hs:=j7 z 8 k0 (by omega);refine LGo.seq (LGo.region rfl (ae (h:=kM (h:=aa (h:=Reg.nil ⟨fun h=>(by cases h),LGo.region rfl (ae (h:=aG (h:=aa (h:=Reg.nil ⟨fun h=>(by cases h),?_⟩))))⟩)))));exact LGo.keep [(0,(true,.u (z/2^8))),(2,(true,.i (acc+8)))] [] ⟨rfl,rfl,trivial⟩ trivial (J (z/2^8,acc+8) (by refine⟨?_,?_,?_,?_,?_⟩<;>dsimp only<;>omega));refine LGo.skip ?_;exact LGo.keep [(0,(true,.u (z))),(2,(true,.i (acc)))] [] ⟨rfl,rfl,trivial⟩ trivial (J (z,acc) (by refine⟨?_,?_,?_,?_,?_⟩<;>dsimp only<;>omega));refine LGo.seq (LGo.region rfl (ae (h:=ah (bh _ _ _ _ _ _) (h:=Reg.nil ⟨fun h=>(by cases h),?_⟩))));refine ao (ht:=fun hc=>?_) (hf:=fun hc=>?_);have hs:=j7 y 16 k0 (by omega);refine LGo.seq (LGo.region rfl (ae (h:=kM (h:=aa (h:=Reg.nil ⟨fun h=>(by cases h),LGo.region rfl (ae (h:=aG (h:=aa (h:=Reg.nil ⟨fun h=>(by cases h),?_⟩))))⟩)))));exact LGo.keep [(0,(true,.u (y/2^16))),(2,(true,.i (acc+16)))] [] ⟨rfl,rfl,trivial⟩ trivial (J (y/2^16,acc+16) (by refine⟨?_,?_,?_,?_,?_⟩<;>dsimp only<;>omega));refine LGo.skip ?_;exact LGo.keep [(0,(true,.u (y))),(2,(true,.i (acc)))] [] ⟨rfl,rfl,trivial⟩ trivial (J (y,acc) (by refine⟨?_,?_,?_,?_,?_⟩<;>dsimp only<;>omega));refine LGo.seq (LGo.region rfl (ae (h:=ah (bh _ _ _ _ _ _) (h:=Reg.nil ⟨fun h=>(by cases h),?_⟩))));refine ao (ht:=fun hc=>?_) (hf:=fun hc=>?_);have hs:=j7 x 32 h0 (by omega);refine LGo.seq (LGo.region rfl (ae (h:=kM (h:=aa (h:=Reg.nil ⟨fun h=>(by cases h),LGo.region rfl (aa (h:=Reg.nil ⟨fun h=>(by cases h),?_⟩))⟩)))));exact LGo.keep [(0,(true,.u (x/2^32))),(2,(true,.i (32)))] [] ⟨rfl,rfl,trivial⟩ trivial (J (x/2^32,32) (by refine⟨?_,?_,?_,?_,?_⟩<;>dsimp only<;>omega));refine LGo.skip ?_;exact LGo.keep [(0,(true,.u (x))),(2,(true,.i (0)))] [] ⟨rfl,rfl,trivial⟩ trivial (J (x,0) (by refine⟨?_,?_,?_,?_,?_⟩<;>dsimp only<;>omega))
def low(x:Int):Nat→List Int
 |0=>[]
 |k+1=>x/2^(8*k)%256::low x k
def fM(x:Int):List Int:=low x ((bits x.toNat+7)/8)
abbrev gV(l:List Int):List (List LV):=l.map fun d=>[.y d]
def eA(m c:Nat)(x:Int)(L:List (Nat×LO)):Prop:=L.map (·.1)=List.range m∧(∀p∈L,p.2.lt m=true)∧∃TB,hp L c=some (.box TB [.u x])
theorem YRun.head{P:Program}{y:Nat}{C:List (Nat×LO)→Prop}{xs:List (List LV)}{L L':List (Nat×LO)}(h:YRun P y C xs L L'):C L:=by
 cases h<;>assumption
theorem zH(k:Nat)(hk:k≤7):min (Int.toNat (8*(k:Int))) IntKind.u64.bits=8*k:=by
 simp only[IntKind.bits];omega
theorem wrap_u8(a:Int):IntKind.u8.wrap a=a%256:=by
 simp[IntKind.wrap,IntKind.bits,IntKind.signed]
theorem E3(x:Int)(h0:0≤x)(h1:x<18446744073709551616){m y c:Nat}{L L':List (Nat×LO)}(hy:y<m)(hc:c<m)(hL:eA m c x L)(hr:YRun Tryz.prog y (eA m c x) (gV (fM x)) L L'):
 LC Tryz.prog 231 m [.yld y,.ptr c 0] L (.tup []) L' 0:=by
 have hL':∀{xs:List (List LV)} {L L':List (Nat×LO)},YRun Tryz.prog y (eA m c x) xs L L'→eA m c x L':=by
  intro xs L L' h;induction h with
  |nil h=>exact h
  |stop _ _ h=>exact h
  |go _ _ _ ih=>exact ih
 refine LC.of_go Tryz.func231 (c:=_) rfl (by kernel_rfl) (by rw[Tryz.ntmps231];simp) (by simp[an,LV.lt,hy,hc]) hL.1 hL.2.1 (fun p hp'=>.inl (by rw[hL.1,←(hL' hr).1];exact List.mem_map.2 ⟨p,hp',rfl⟩)) ?_;intro B hA hmd;obtain⟨hL1,hL2,TB,hLb⟩:=hL;have hb:=tD x.toNat 64 (by omega);refine LGo.seq (LGo.region rfl (ag eP (hb:=hLb) (h:=ai (es:=[_]) (fun _=>EI x h0 h1) (h:=aG (h:=uv (h:=dD (h:=aa (h:=Reg.nil ⟨fun h=>(by cases h),LGo.block (LGo.loop ?_)⟩))))))));refine LGo.keep [(0,(true,.yld y)),(1,(true,.ptr c 0)),(3,(true,.i ((((bits x.toNat:Nat):Int)+7)/8-1)))] L ⟨rfl,rfl,rfl,trivial⟩ (KeepL.of fun p hp'=>bV (by rw[hL1];exact List.nodup_range) hp') ?_;have hdg:∃k:Nat,k≤8∧((bits x.toNat:Nat)+7)/8=k∧((((bits x.toNat:Nat):Int)+7)/8-1=(k:Int)-1):=⟨(bits x.toNat+7)/8,by omega,rfl,by omega⟩;obtain⟨k0,hk8,hk,hk'⟩:=hdg;rw[hk'];have hr':YRun Tryz.prog y (eA m c x) (gV (low x k0)) L L':=by rw[←hk];exact hr
 refine gq (σ:=Nat×List (Nat×LO)) (fun s=>s.1≤8∧eA m c x s.2∧YRun Tryz.prog y (eA m c x) (gV (low x s.1)) s.2 L')
  (fun s=>[(0,(true,.yld y)),(1,(true,.ptr c 0)),(3,(true,.i ((s.1:Int)-1)))]) (fun s=>s.2) (fun _=>m) (fun s=>s.1) (k0,L) ⟨hk8,⟨hL1,hL2,TB,hLb⟩,hr'⟩ ?_
 rintro⟨k,Lc⟩ ⟨q1,q2,q3⟩ ih;dsimp only at q1 q2 q3 ih⊢;obtain⟨q4,q5,TB',q6⟩:=q2;refine LGo.seq (LGo.seq (LGo.region rfl (ae (h:=ah (bh _ _ _ _ _ _) (h:=Reg.nil ⟨fun h=>(by cases h),?_⟩)))));refine ao (ht:=fun hc=>?_) (hf:=fun hc=>?_)
 ·cases k with
  |zero=>exact absurd hc (by simp)
  |succ k=>
  have hkk:((k+1:Nat):Int)-1=k:=by omega
  rw[hkk]at hc;simp only[hkk];refine LGo.skip (LGo.seq (LGo.block (LGo.seq (LGo.region rfl (ae (h:=ag eP (hb:=q6) (h:=ae (h:=Ib (h:=kM (h:=dN Tryz.runUnderlying55 Tryz.runUnderlying5 (h:=?_)))))))))));rw[zH k (by omega),wrap_u8];have hks:0<k+1:=by omega
  simp only[low,gV,List.map_cons]at q3;have hC:∀{L1:List (Nat×LO)},eA m c x L1→KeepL (hp (L1++Lc)) L1:=fun h=>KeepL.app (by rw[h.1];exact List.nodup_range);cases q3 with
  |stop _ hyl hc1=>
   refine sH (es:=[_]) hyl (hL:=fun _ _ h=>h) (h:=bd (h:=Reg.nil ⟨fun h=>(by cases h),?_⟩));refine aj (ht:=fun _=>?_) (hf:=fun hc=>by cases hc);refine LGo.keep [] _ trivial (hC hc1) ?_;exact LGo.ret (ud Tryz.results231 hA hmd (by rfl) (fun _ _ h=>h) (.inr rfl))
  |@go _ _ _ L1 _ _ hyl hrest=>
   have hc1:eA m c x L1:=hrest.head;refine sH (es:=[_]) hyl (hL:=fun _ _ h=>h) (h:=bd (h:=Reg.nil ⟨fun h=>(by cases h),?_⟩));refine aj (ht:=fun hc=>by cases hc) (hf:=fun _=>?_);refine LGo.skip (LGo.inBlock (LGo.region rfl (ae (h:=dD (h:=aa (h:=Reg.nil ⟨fun h=>(by cases h),LGo.inLoop ?_⟩))))));refine LGo.keep [(0,(true,.yld y)),(1,(true,.ptr c 0)),(3,(true,.i ((k:Int)-1)))] L1 ⟨rfl,rfl,rfl,trivial⟩ (hC hc1) ?_;exact ih (k,L1) ⟨by omega,hc1,hrest⟩ (by simp)
 have hk0:k=0:=by omega
 subst hk0;simp only[low,gV,List.map_nil]at q3;cases q3 with
 |nil h=>
  refine LGo.exit rfl ?_;exact LGo.done (ud Tryz.results231 hA hmd (by rfl) (fun _ _ h=>h) (.inl rfl))
theorem CZ(x:Int):LC Tryz.prog 199 0 [.u x] [] (.fn (.func 231) [] [.ptr 0 0]) [(0,.box 55 [.u x])] 1:=by
 refine LC.of_go Tryz.func199 (c:=_) rfl (by kernel_rfl) (by rw[Tryz.ntmps199];simp) rfl rfl (by simp) (by simp) ?_;intro B hA hmd;refine LGo.seq (LGo.region rfl (bg (h:=aa (h:=Reg.nil ⟨fun h=>(by cases h),LGo.seq (LGo.region rfl (cQ (es:=[]) (fs:=[_]) (h:=aa (h:=Reg.nil ⟨fun h=>(by cases h),?_⟩))))⟩))));exact LGo.ret (lM Tryz.results199 hA hmd (by rfl) (fun _ _ h=>h) (by rfl) (.inr rfl))
structure Fld where
 tag:Int
 num:Int
 txt:List UInt8
instance:Inhabited Fld:=⟨⟨0,0,[]⟩⟩
def Fld.c(x:Fld):List SV:=[.val (.int .i64 x.tag),.val (.int .u64 x.num),.val (.string ⟨x.txt.toArray⟩)]
def mQ{α:Type}(p:α→Bool):Nat→List α→Int
 |_,[]=>-1
 |k,x::xs=>if p x=true then(k:Int)else mQ p (k+1) xs
theorem pZ{α:Type}(p:α→Bool):∀(xs:List α) (k:Nat),(mQ p k xs=-1∧xs.find? p=none)∨∃(j:Nat) (hj:j<xs.length),mQ p k xs=(k+j:Int)∧xs.find? p=some xs[j]
 |[],k=>.inl ⟨rfl,rfl⟩
 |x::xs,k=>by
  by_cases h:p x=true;exact .inr ⟨0,by simp,by simp[mQ,h],by simp[h]⟩;rcases pZ p xs (k+1)with⟨h1,h2⟩|⟨j,hj,h1,h2⟩
  exact .inl ⟨by simp[mQ,h,h1],by simp[h,h2]⟩;refine .inr ⟨j+1,by simpa using hj,?_,by simp[h,h2]⟩;simp only[mQ,if_neg h,h1];push_cast;omega
theorem uc{x:LO}{L:List (Nat×LO)}(h:hp L 0=some x):∀(o:Nat) (y:LO),hp [(0,x)] o=some y→hp L o=some y:=by
 intro o y hy;simp only[hp,List.lookup_cons,List.lookup_nil]at hy;cases ho:(o==0)with
 |true=>
  rw[ho]at hy;cases hy;have:o=0:=by simpa using ho
  subst this;exact h
 |false=>rw[ho]at hy;cases hy
def pA(tag:Int)(xs:List Fld):Fld:=(xs.find? (fun x=>decide (Fld.tag x=tag))).getD default
def fi(tag:Int)(xs:List Fld):Bool:=(xs.find? (fun x=>decide (Fld.tag x=tag))).isSome
def du(tag:Int)(xs:List Rule):Rule:=(xs.find? (fun x=>decide (Rule.tag x=tag))).getD default
def dn(tag:Int)(xs:List Rule):Bool:=(xs.find? (fun x=>decide (Rule.tag x=tag))).isSome
theorem GQ(x:Fld)(tag:Int):LC Tryz.prog 201 1 [.agg (x.c.map LV.sv),.ptr 0 0] [(0,.box 3 [.i tag])] (.b (decide (x.tag=tag))) [(0,.box 3 [.i tag])] 0:=by
 refine LC.of_go Tryz.func201 (c:=_) rfl (by kernel_rfl) (by rw[Tryz.ntmps201];simp) rfl rfl (by simp[LO.lt,an,LV.lt]) (by simp) ?_;intro B hA hmd;refine LGo.seq (LGo.region rfl (bg (h:=aa (h:=Reg.nil ⟨fun h=>(by cases h),LGo.seq (LGo.region rfl (af m8 (h:=ag O3 (h:=ag O3 (h:=ah (av _ _ _ _ _ _) (h:=aa (h:=Reg.nil ⟨fun h=>(by cases h),LGo.drop 1 (fun o h=>(hA o).1 h) (by omega) [(3,(true,.b (decide (x.tag=tag))))] [(0,.box 3 [.i tag])] ⟨rfl,trivial⟩ ⟨rfl,trivial⟩ (by simp[LV.lt]) (by simp[LO.lt,an,LV.lt]) (h:=?_)⟩)))))))⟩))));exact LGo.ret (lM Tryz.results201 hA hmd (by rfl) (fun _ _ h=>h) (by rfl) (.inr rfl))
theorem EU(xs:List Fld)(tag:Int)(hxs:xs.length≤100):LC Tryz.prog 232 1 [.sv (.sl 3 (xs.map Fld.c)),.fn (.func 201) [] [.ptr 0 0]] [(0,.box 3 [.i tag])] (.i (mQ (fun x=>decide (Fld.tag x=tag)) 0 xs)) [(0,.box 3 [.i tag])] 0:=by
 refine LC.of_go Tryz.func232 (c:=_) rfl (by kernel_rfl) (by rw[Tryz.ntmps232];simp) rfl rfl (by simp[LO.lt,an,LV.lt]) (by simp) ?_;intro B hA hmd;refine LGo.seq (LGo.region rfl (aa (h:=Reg.nil ⟨fun h=>(by cases h),LGo.seq (LGo.seq (LGo.region rfl (ae (h:=aF F7 (h:=ae (h:=Reg.nil ⟨fun h=>(by cases h),?_⟩))))))⟩)));rw[List.length_map];refine LGo.block (LGo.loop ?_);refine LGo.keep [(0,(true,.sv (.sl 3 (xs.map Fld.c)))),(1,(true,.fn (.func 201) [] [.ptr 0 0])),(7,(true,.i xs.length)),(8,(true,.i (0:Nat)))] [(0,.box 3 [.i tag])] ⟨rfl,rfl,rfl,rfl,trivial⟩ ⟨rfl,trivial⟩ ?_;refine gq (σ:=Nat) (fun k=>k≤xs.length∧mQ (fun x=>decide (Fld.tag x=tag)) 0 xs=mQ (fun x=>decide (Fld.tag x=tag)) k (xs.drop k))
  (fun k=>[(0,(true,.sv (.sl 3 (xs.map Fld.c)))),(1,(true,.fn (.func 201) [] [.ptr 0 0])),(7,(true,.i xs.length)),(8,(true,.i k))]) (fun _=>[(0,.box 3 [.i tag])]) (fun _=>1) (fun k=>xs.length-k) 0 ⟨by simp,by simp⟩ ?_
 rintro k ⟨hk,hq⟩ ih;refine LGo.seq (LGo.region rfl (ah (au _ _ _ _ _ _) (h:=Reg.nil ⟨fun h=>(by cases h),LGo.seq ?_⟩)));refine ao (ht:=fun hc=>?_) (hf:=fun hc=>?_);have hlt:k<xs.length:=by omega
 have hx:(xs.map Fld.c)[((k:Nat):Int).toNat]?=some (xs[k].c):=by simp[hlt]
 have hd:xs.drop k=xs[k]::xs.drop (k+1):=List.drop_eq_getElem_cons hlt;rw[hd]at hq;generalize xs[k]=x at hx hq;clear hd;refine LGo.skip (LGo.seq (LGo.block (LGo.seq (LGo.region rfl (ae (h:=aa (h:=Reg.nil ⟨fun h=>(by cases h),LGo.seq (LGo.region rfl (ae (h:=ae (h:=ae (h:=aw F8 (hj:=fun _=>⟨by omega,hx⟩) (h:=?_))))))⟩)))))));refine aR cT (h:=cH (m:=1) (avs:=[_]) (out:= .b (decide (x.tag=tag))) (es:=[_]) (first:=[]) (cap:=[.ptr 0 0]) (GQ x tag) (hL:=fun _ _ h=>h) (h:=Reg.nil ⟨fun h=>(by cases h),?_⟩));refine ao (ht:=fun hc1=>?_) (hf:=fun hc1=>?_);refine LGo.seq (LGo.region rfl (ae (h:=aa (h:=Reg.nil ⟨fun h=>(by cases h),?_⟩))));have e:mQ (fun x=>decide (Fld.tag x=tag)) k (x::xs.drop (k+1))=k:=by simp[mQ,hc1]
 rw[hq,e];exact LGo.ret (lM Tryz.results232 hA hmd (by rfl) (fun _ _ h=>h) (by rfl) (.inr rfl));have e:mQ (fun x=>decide (Fld.tag x=tag)) k (x::xs.drop (k+1))=mQ (fun x=>decide (Fld.tag x=tag)) (k+1) (xs.drop (k+1)):=by simp[mQ,hc1]
 rw[e]at hq;refine LGo.skip (LGo.inBlock (LGo.region rfl (aG (h:=ae (h:=Reg.nil ⟨fun h=>(by cases h),LGo.inLoop ?_⟩)))));exact LGo.next 1 (fun o h=>(hA o).1 h) (by omega) (ih (k+1) ⟨by omega,hq⟩ (by omega)) ⟨rfl,rfl,rfl,rfl,trivial⟩ ⟨rfl,trivial⟩;have hk':k=xs.length:=by omega
 subst hk';simp only[List.drop_length,mQ]at hq;rw[hq];refine LGo.exit rfl (LGo.seq (LGo.region rfl (aa (h:=Reg.nil ⟨fun h=>(by cases h),?_⟩))));exact LGo.ret (lM Tryz.results232 hA hmd (by rfl) (fun _ _ h=>h) (by rfl) (.inr rfl))
theorem CL(xs:List Fld)(tag:Int)(hxs:xs.length≤100):LC Tryz.prog 200 1 [.sv (.sl 3 (xs.map Fld.c)),.fn (.func 201) [] [.ptr 0 0]] [(0,.box 3 [.i tag])] (.tup [.agg ((pA tag xs).c.map LV.sv),.b (fi tag xs)]) [(0,.box 3 [.i tag])] 0:=by
 refine LC.of_go Tryz.func200 (c:=_) rfl (by kernel_rfl) (by rw[Tryz.ntmps200];simp) rfl rfl (by simp[LO.lt,an,LV.lt]) (by simp) ?_;intro B hA hmd;refine LGo.seq (LGo.region rfl (aD ui (h:=aa (h:=Reg.nil ⟨fun h=>(by cases h),LGo.seq (LGo.region rfl (ae (h:=ae (h:=cH (m:=1) (avs:=[_,_]) (out:= .i (mQ (fun x=>decide (Fld.tag x=tag)) 0 xs)) (es:=[_,_]) (first:=[]) (cap:=[]) (EU xs tag hxs) (hL:=uc (by rfl)) (h:=aa (h:=Reg.nil ⟨fun h=>(by cases h),LGo.seq (LGo.seq ?_)⟩))))))⟩))));refine LGo.region rfl (ae (h:=ah (au _ _ _ _ _ _) (h:=Reg.nil ⟨fun h=>(by cases h),?_⟩)));have hsp:=pZ (fun x=>decide (Fld.tag x=tag)) xs 0;refine ao (ht:=fun hc=>?_) (hf:=fun hc=>?_);have e:pA tag xs=default∧fi tag xs=false:=by
  rcases hsp with⟨h1,h2⟩|⟨j,hj,h1,h2⟩
  simp[pA,fi,h2];omega
 rw[e.1,e.2];refine LGo.seq (LGo.region rfl (aD ui (h:=Reg.nil ⟨fun h=>(by cases h),LGo.seq (LGo.region rfl (aB cT (h:=ar cT (h:=aa (h:=Reg.nil ⟨fun h=>(by cases h),?_⟩)))))⟩)));exact LGo.ret (rL Tryz.results200 cT hA hmd (by omega) (uc (by rfl)) (by rfl) (by rfl) (by rfl) (by rfl) (.inr rfl));rcases hsp with⟨h1,h2⟩|⟨j,hj,h1,h2⟩
 omega;have hx:(xs.map Fld.c)[(mQ (fun x=>decide (Fld.tag x=tag)) 0 xs).toNat]?=some (xs[j].c):=by rw[h1];simp[hj]
 have e:pA tag xs=xs[j]∧fi tag xs=true:=by simp[pA,fi,h2]
 rw[e.1,e.2];generalize xs[j]=x at hx⊢;refine LGo.skip (LGo.seq (LGo.region rfl (ae (h:=ae (h:=aw F8 (hj:=fun _=>⟨by omega,hx⟩) (h:=aR cT (h:=ar cT (h:=aa (h:=Reg.nil ⟨fun h=>(by cases h),?_⟩)))))))));exact LGo.ret (rL Tryz.results200 cT hA hmd (by omega) (uc (by rfl)) (by rfl) (by rfl) (by rfl) (by rfl) (.inr rfl))
theorem ET(xs:List Fld)(tag:Int)(hxs:xs.length≤100):PC Tryz.prog 165 [.sv (.sl 3 (xs.map Fld.c)),.i tag] (.tup [.agg ((pA tag xs).c.map LV.sv),.b (fi tag xs)]):=by
 refine⟨LC.of_go Tryz.func165 (c:=_) rfl (by kernel_rfl) (by rw[Tryz.ntmps165];simp) rfl rfl (by simp) (by simp) ?_⟩;intro B hA hmd;refine LGo.seq (LGo.region rfl (bg (h:=aD ui (h:=aa (h:=Reg.nil ⟨fun h=>(by cases h),LGo.seq (LGo.region rfl (ae (h:=cQ (es:=[]) (fs:=[_]) (h:=cH (m:=1) (avs:=[_,_]) (out:= .tup [.agg ((pA tag xs).c.map LV.sv),.b (fi tag xs)]) (es:=[_,_]) (first:=[]) (cap:=[]) (CL xs tag hxs) (hL:=uc (by rfl)) (h:=ak (h:=ak (h:=ar cT (h:=?_))))))))⟩)))));refine aa (h:=Reg.nil ⟨fun h=>(by cases h),?_⟩);exact LGo.ret (rL Tryz.results165 cT hA hmd (by omega) jC (by rfl) (by rfl) (by rfl) (by rfl) (.inr rfl))
theorem Ek(x:Rule)(tag:Int):LC Tryz.prog 197 1 [.agg (x.c.map LV.sv),.ptr 0 0] [(0,.box 3 [.i tag])] (.b (decide (x.tag=tag))) [(0,.box 3 [.i tag])] 0:=by
 refine LC.of_go Tryz.func197 (c:=_) rfl (by kernel_rfl) (by rw[Tryz.ntmps197];simp) rfl rfl (by simp[LO.lt,an,LV.lt]) (by simp) ?_;intro B hA hmd;refine LGo.seq (LGo.region rfl (bg (h:=aa (h:=Reg.nil ⟨fun h=>(by cases h),LGo.seq (LGo.region rfl (af m7 (h:=ag O3 (h:=ag O3 (h:=ah (av _ _ _ _ _ _) (h:=aa (h:=Reg.nil ⟨fun h=>(by cases h),LGo.drop 1 (fun o h=>(hA o).1 h) (by omega) [(3,(true,.b (decide (x.tag=tag))))] [(0,.box 3 [.i tag])] ⟨rfl,trivial⟩ ⟨rfl,trivial⟩ (by simp[LV.lt]) (by simp[LO.lt,an,LV.lt]) (h:=?_)⟩)))))))⟩))));exact LGo.ret (lM Tryz.results197 hA hmd (by rfl) (fun _ _ h=>h) (by rfl) (.inr rfl))
theorem B8(xs:List Rule)(tag:Int)(hxs:xs.length≤100):LC Tryz.prog 230 1 [.sv (.sl 5 (xs.map Rule.c)),.fn (.func 197) [] [.ptr 0 0]] [(0,.box 3 [.i tag])] (.i (mQ (fun x=>decide (Rule.tag x=tag)) 0 xs)) [(0,.box 3 [.i tag])] 0:=by
 refine LC.of_go Tryz.func230 (c:=_) rfl (by kernel_rfl) (by rw[Tryz.ntmps230];simp) rfl rfl (by simp[LO.lt,an,LV.lt]) (by simp) ?_;intro B hA hmd;refine LGo.seq (LGo.region rfl (aa (h:=Reg.nil ⟨fun h=>(by cases h),LGo.seq (LGo.seq (LGo.region rfl (ae (h:=aF DN (h:=ae (h:=Reg.nil ⟨fun h=>(by cases h),?_⟩))))))⟩)));rw[List.length_map];refine LGo.block (LGo.loop ?_);refine LGo.keep [(0,(true,.sv (.sl 5 (xs.map Rule.c)))),(1,(true,.fn (.func 197) [] [.ptr 0 0])),(7,(true,.i xs.length)),(8,(true,.i (0:Nat)))] [(0,.box 3 [.i tag])] ⟨rfl,rfl,rfl,rfl,trivial⟩ ⟨rfl,trivial⟩ ?_;refine gq (σ:=Nat) (fun k=>k≤xs.length∧mQ (fun x=>decide (Rule.tag x=tag)) 0 xs=mQ (fun x=>decide (Rule.tag x=tag)) k (xs.drop k))
  (fun k=>[(0,(true,.sv (.sl 5 (xs.map Rule.c)))),(1,(true,.fn (.func 197) [] [.ptr 0 0])),(7,(true,.i xs.length)),(8,(true,.i k))]) (fun _=>[(0,.box 3 [.i tag])]) (fun _=>1) (fun k=>xs.length-k) 0 ⟨by simp,by simp⟩ ?_
 rintro k ⟨hk,hq⟩ ih;refine LGo.seq (LGo.region rfl (ah (au _ _ _ _ _ _) (h:=Reg.nil ⟨fun h=>(by cases h),LGo.seq ?_⟩)));refine ao (ht:=fun hc=>?_) (hf:=fun hc=>?_);have hlt:k<xs.length:=by omega
 have hx:(xs.map Rule.c)[((k:Nat):Int).toNat]?=some (xs[k].c):=by simp[hlt]
 have hd:xs.drop k=xs[k]::xs.drop (k+1):=List.drop_eq_getElem_cons hlt;rw[hd]at hq;generalize xs[k]=x at hx hq;clear hd;refine LGo.skip (LGo.seq (LGo.block (LGo.seq (LGo.region rfl (ae (h:=aa (h:=Reg.nil ⟨fun h=>(by cases h),LGo.seq (LGo.region rfl (ae (h:=ae (h:=ae (h:=aw DP (hj:=fun _=>⟨by omega,hx⟩) (h:=?_))))))⟩)))))));refine aR ch (h:=cH (m:=1) (avs:=[_]) (out:= .b (decide (x.tag=tag))) (es:=[_]) (first:=[]) (cap:=[.ptr 0 0]) (Ek x tag) (hL:=fun _ _ h=>h) (h:=Reg.nil ⟨fun h=>(by cases h),?_⟩));refine ao (ht:=fun hc1=>?_) (hf:=fun hc1=>?_);refine LGo.seq (LGo.region rfl (ae (h:=aa (h:=Reg.nil ⟨fun h=>(by cases h),?_⟩))));have e:mQ (fun x=>decide (Rule.tag x=tag)) k (x::xs.drop (k+1))=k:=by simp[mQ,hc1]
 rw[hq,e];exact LGo.ret (lM Tryz.results230 hA hmd (by rfl) (fun _ _ h=>h) (by rfl) (.inr rfl));have e:mQ (fun x=>decide (Rule.tag x=tag)) k (x::xs.drop (k+1))=mQ (fun x=>decide (Rule.tag x=tag)) (k+1) (xs.drop (k+1)):=by simp[mQ,hc1]
 rw[e]at hq;refine LGo.skip (LGo.inBlock (LGo.region rfl (aG (h:=ae (h:=Reg.nil ⟨fun h=>(by cases h),LGo.inLoop ?_⟩)))));exact LGo.next 1 (fun o h=>(hA o).1 h) (by omega) (ih (k+1) ⟨by omega,hq⟩ (by omega)) ⟨rfl,rfl,rfl,rfl,trivial⟩ ⟨rfl,trivial⟩;have hk':k=xs.length:=by omega
 subst hk';simp only[List.drop_length,mQ]at hq;rw[hq];refine LGo.exit rfl (LGo.seq (LGo.region rfl (aa (h:=Reg.nil ⟨fun h=>(by cases h),?_⟩))));exact LGo.ret (lM Tryz.results230 hA hmd (by rfl) (fun _ _ h=>h) (by rfl) (.inr rfl))
theorem zA(xs:List Rule)(tag:Int)(hxs:xs.length≤100):LC Tryz.prog 196 1 [.sv (.sl 5 (xs.map Rule.c)),.fn (.func 197) [] [.ptr 0 0]] [(0,.box 3 [.i tag])] (.tup [.agg ((du tag xs).c.map LV.sv),.b (dn tag xs)]) [(0,.box 3 [.i tag])] 0:=by
 refine LC.of_go Tryz.func196 (c:=_) rfl (by kernel_rfl) (by rw[Tryz.ntmps196];simp) rfl rfl (by simp[LO.lt,an,LV.lt]) (by simp) ?_;intro B hA hmd;refine LGo.seq (LGo.region rfl (aD ph (h:=aa (h:=Reg.nil ⟨fun h=>(by cases h),LGo.seq (LGo.region rfl (ae (h:=ae (h:=cH (m:=1) (avs:=[_,_]) (out:= .i (mQ (fun x=>decide (Rule.tag x=tag)) 0 xs)) (es:=[_,_]) (first:=[]) (cap:=[]) (B8 xs tag hxs) (hL:=uc (by rfl)) (h:=aa (h:=Reg.nil ⟨fun h=>(by cases h),LGo.seq (LGo.seq ?_)⟩))))))⟩))));refine LGo.region rfl (ae (h:=ah (au _ _ _ _ _ _) (h:=Reg.nil ⟨fun h=>(by cases h),?_⟩)));have hsp:=pZ (fun x=>decide (Rule.tag x=tag)) xs 0;refine ao (ht:=fun hc=>?_) (hf:=fun hc=>?_);have e:du tag xs=default∧dn tag xs=false:=by
  rcases hsp with⟨h1,h2⟩|⟨j,hj,h1,h2⟩
  simp[du,dn,h2];omega
 rw[e.1,e.2];refine LGo.seq (LGo.region rfl (aD ph (h:=Reg.nil ⟨fun h=>(by cases h),LGo.seq (LGo.region rfl (aB ch (h:=ar ch (h:=aa (h:=Reg.nil ⟨fun h=>(by cases h),?_⟩)))))⟩)));exact LGo.ret (rL Tryz.results196 ch hA hmd (by omega) (uc (by rfl)) (by rfl) (by rfl) (by rfl) (by rfl) (.inr rfl));rcases hsp with⟨h1,h2⟩|⟨j,hj,h1,h2⟩
 omega;have hx:(xs.map Rule.c)[(mQ (fun x=>decide (Rule.tag x=tag)) 0 xs).toNat]?=some (xs[j].c):=by rw[h1];simp[hj]
 have e:du tag xs=xs[j]∧dn tag xs=true:=by simp[du,dn,h2]
 rw[e.1,e.2];generalize xs[j]=x at hx⊢;refine LGo.skip (LGo.seq (LGo.region rfl (ae (h:=ae (h:=aw DP (hj:=fun _=>⟨by omega,hx⟩) (h:=aR ch (h:=ar ch (h:=aa (h:=Reg.nil ⟨fun h=>(by cases h),?_⟩)))))))));exact LGo.ret (rL Tryz.results196 ch hA hmd (by omega) (uc (by rfl)) (by rfl) (by rfl) (by rfl) (by rfl) (.inr rfl))
theorem B7(xs:List Rule)(tag:Int)(hxs:xs.length≤100):PC Tryz.prog 162 [.sv (.sl 5 (xs.map Rule.c)),.i tag] (.tup [.agg ((du tag xs).c.map LV.sv),.b (dn tag xs)]):=by
 refine⟨LC.of_go Tryz.func162 (c:=_) rfl (by kernel_rfl) (by rw[Tryz.ntmps162];simp) rfl rfl (by simp) (by simp) ?_⟩;intro B hA hmd;refine LGo.seq (LGo.region rfl (bg (h:=aD ph (h:=aa (h:=Reg.nil ⟨fun h=>(by cases h),LGo.seq (LGo.region rfl (ae (h:=cQ (es:=[]) (fs:=[_]) (h:=cH (m:=1) (avs:=[_,_]) (out:= .tup [.agg ((du tag xs).c.map LV.sv),.b (dn tag xs)]) (es:=[_,_]) (first:=[]) (cap:=[]) (zA xs tag hxs) (hL:=uc (by rfl)) (h:=ak (h:=ak (h:=ar ch (h:=?_))))))))⟩)))));refine aa (h:=Reg.nil ⟨fun h=>(by cases h),?_⟩);exact LGo.ret (rL Tryz.results162 ch hA hmd (by omega) jC (by rfl) (by rfl) (by rfl) (by rfl) (.inr rfl))
def dC(rs:List Rule):List Int:=(rs.filter (fun r=>r.must)).map Rule.tag
def jJ(l:List Int):List (List LV):=l.map fun t=>[.i t]
def nU(l:List Int):List (List SV):=l.map fun t=>[.val (.int .i64 t)]
theorem zp(l:List Int)(t:Int):jJ (l++[t])=jJ l++[[.i t]]:=by simp[jJ]
theorem xo(rs:List Rule)(k:Nat)(h:k<rs.length):dC (rs.take (k+1))=dC (rs.take k)++(if rs[k].must=true then[rs[k].tag]else[]):=by
 simp only[dC,List.take_succ_eq_append_getElem h,List.filter_append,List.map_append];congr 1;by_cases hm:rs[k].must=true<;>simp[hm]
theorem r6(rs:List Rule):(dC rs).length≤rs.length:=by
 simp only[dC,List.length_map];exact List.length_filter_le _ _
theorem EB(rs:List Rule)(hrs:rs.length≤100):PC Tryz.prog 164 [.sv (.sl 5 (rs.map Rule.c))] (.sv (.sl 1 (nU (dC rs)))):=by
 refine⟨LC.of_go Tryz.func164 (c:=_) rfl (by kernel_rfl) (by rw[Tryz.ntmps164];simp) rfl rfl (by simp) (by simp) ?_⟩;intro B hA hmd;refine LGo.seq (LGo.region rfl (aa (h:=Reg.nil ⟨fun h=>(by cases h),LGo.seq (LGo.region rfl (aa (h:=Reg.nil ⟨fun h=>(by cases h),LGo.seq (LGo.seq (LGo.region rfl (ae (h:=aF DN (h:=?_)))))⟩)))⟩)));rw[List.length_map];refine ae (h:=Reg.nil ⟨fun h=>(by cases h),LGo.block (LGo.loop ?_)⟩);refine qY 3 3 1 (by rfl) ?_;refine LGo.keep [(3,(true,.ref 0)),(6,(true,.sv (.sl 5 (rs.map Rule.c)))),(7,(true,.i rs.length)),(8,(true,.i (0:Nat)))] [(0,.row 3 1 (jJ (dC (rs.take 0))))] ⟨rfl,rfl,rfl,rfl,trivial⟩ ⟨rfl,trivial⟩ ?_;refine gq (σ:=Nat) (fun k=>k≤rs.length) (fun k=>[(3,(true,.ref 0)),(6,(true,.sv (.sl 5 (rs.map Rule.c)))),(7,(true,.i rs.length)),(8,(true,.i k))]) (fun k=>[(0,.row 3 1 (jJ (dC (rs.take k))))]) (fun _=>1) (fun k=>rs.length-k) 0 (by simp) ?_;rintro k hk ih;refine LGo.seq (LGo.region rfl (ah (au _ _ _ _ _ _) (h:=Reg.nil ⟨fun h=>(by cases h),LGo.seq ?_⟩)));refine ao (ht:=fun hc=>?_) (hf:=fun hc=>?_);have hlt:k<rs.length:=by omega
 have hx:(rs.map Rule.c)[((k:Nat):Int).toNat]?=some (rs[k].c):=by simp[hlt]
 have hnt:=xo rs k hlt;have hnl:=r6 (rs.take k);rw[List.length_take]at hnl;generalize rs[k]=x at hx hnt;refine LGo.skip (LGo.seq (LGo.block (LGo.seq (LGo.region rfl (aw DP (hj:=fun _=>⟨by omega,hx⟩) (h:=aR ch (h:=aD ph (h:=ar ch (h:=Reg.nil ⟨fun h=>(by cases h),LGo.seq (LGo.region rfl (af He (h:=ag O4 (h:=?_))))⟩)))))))));refine Reg.nil ⟨fun h=>(by cases h),?_⟩;refine aj (ht:=fun hc2=>?_) (hf:=fun hc2=>?_);refine LGo.region rfl (ae (h:=af m7 (h:=ag O3 (h:=tX fa (xs:=[_]) (es:=[_]) (hcs:=CellsOfs.cons (CellsOf.one rfl) CellsOfs.nil) (h:=Dt fa (xs:=jJ (dC (rs.take k))) (ys:=[[.i x.tag]]) (hs:=SrcOk.row Tryz.underlying38 (by simp)) (hrd:=jB (by rfl)) (hlen:=by simp[jJ];omega) (h:=aa (h:=Reg.nil ⟨fun h=>(by cases h),LGo.inBlock (LGo.region rfl (aG (h:=ae (h:=Reg.nil ⟨fun h=>(by cases h),LGo.inLoop ?_⟩))))⟩)))))));exact bM [3] (b:=0) (fun o h=>(hA o).1 h) (ih (k+1) hlt (by omega)) ⟨rfl,rfl,rfl,rfl,trivial⟩ ⟨by rw[hnt,if_pos hc2,zp];simp[LO.mapI,jJ,aV,LV.mapI],trivial⟩ (hLl:=by simp[LO.lt,jJ,an,LV.lt]);refine LGo.skip (LGo.inBlock (LGo.region rfl (aG (h:=ae (h:=Reg.nil ⟨fun h=>(by cases h),LGo.inLoop ?_⟩)))));exact LGo.next 1 (fun o h=>by have:=(hA o).1 h;omega) (by omega) (ih (k+1) hlt (by omega)) ⟨rfl,rfl,rfl,rfl,trivial⟩ ⟨by rw[hnt,if_neg (by simp[hc2]),List.append_nil];rfl,trivial⟩ (hLl:=by simp[LO.lt,jJ,an,LV.lt]);have hk':k=rs.length:=by omega
 subst hk';rw[List.take_length];refine LGo.exit rfl (LGo.seq (LGo.region rfl (ae (h:=aa (h:=Reg.nil ⟨fun h=>(by cases h),?_⟩)))));refine LGo.freeze 0 (ys:=nU (dC rs)) (by rfl) (by simp[jJ,nU]) ?_;refine LGo.drop 0 (fun o h=>(hA o).1 h) (by omega) [(2,(true,.sv (.sl 1 (nU (dC rs)))))] [] ⟨rfl,trivial⟩ trivial (by simp[LV.lt]) (by simp) (h:=?_);exact LGo.ret (lM Tryz.results164 hA hmd (by rfl) jC (by rfl) (.inr rfl))
def Je(r:Rule)(x:Fld):Bool:=(decide (r.kind=1)&&!decide (x.txt=[]))||(decide (r.kind=2)&&!decide (x.num=0))
def val(r:Rule)(x:Fld):Int:=if r.kind=2 then x.txt.length else x.num
def one(r:Rule)(x:Fld):Int:=if Je r x=true then 2 else if(!pF r (val r x))=true then 7 else 0
def pn(l:List UInt8):List Int:=l.map fun c=>(c.toNat:Int)
theorem rQ(l:List UInt8):(pn l).length=l.length:=by simp[pn]
theorem wi(l:List UInt8):aL l=ic .u8 (pn l):=Ap l
theorem yx(x:Int):∀k,(low x k).length=k
 |0=>rfl
 |k+1=>by simp[low,yx x k]
theorem mh(x:Int)(h0:0≤x)(h1:x<18446744073709551616):(fM x).length≤8:=by
 have:=tD x.toNat 64 (by omega);rw[fM,yx];omega
def wE(r:Rule)(x:Fld):Int:=if r.kind=1 then(if(!decide (x.txt=[]))=true then 2 else if(!pF r x.num)=true then 7 else 0)else(if(!decide (x.num=0))=true then 2 else if(!pF r x.txt.length)=true then 7 else 0)
def mV(r:Rule)(x:Fld):List Int:=if r.kind=1 then[x.tag,((fM x.num).length:Int)]++fM x.num else[x.tag,(x.txt.length:Int)/256,(x.txt.length:Int)%256]++pn x.txt
theorem BI(a:Int):IntKind.u8.wrap a=a%256:=wrap_u8 a
theorem Ev(bs:List (List SV))(r:Rule)(x:Fld)(hbs:bs.length≤100000)(ht0:0≤x.tag)(ht1:x.tag<256)(hn0:0≤x.num)(hn1:x.num<18446744073709551616)(hx:x.txt.length≤1000)(e:Int)(he:wE r x=e)(h0:e≠0):LC Tryz.prog 163 1 [.ref 0,.agg (r.c.map LV.sv),.agg (x.c.map LV.sv)] [(0,.rs 5 1 bs)] (.tup [.v (.slice none 0 0),.i e]) [] 0:=by
 refine LC.of_go Tryz.func163 (c:=_) rfl (by kernel_rfl) (by rw[Tryz.ntmps163];simp) rfl rfl (by simp[LO.lt,an,LV.lt]) (by simp) ?_;intro B hA hmd;unfold wE at he;refine LGo.seq (LGo.region rfl (bg (h:=bg (h:=aa (h:=aa (h:=Reg.nil ⟨fun h=>(by cases h),LGo.seq (LGo.region rfl (af iP (h:=ag O9 (h:=bC Tryz.runUnderlying9 (h:=bS Tryz.runUnderlying3 Tryz.runUnderlying55 (h:=aa (h:=?_)))))))⟩))))));refine Reg.nil ⟨fun h=>(by cases h),LGo.seq (LGo.seq (LGo.region rfl (af fR (h:=ag O3 (h:=ah (av _ _ _ _ _ _) (h:=Reg.nil ⟨fun h=>(by cases h),?_⟩))))))⟩;refine ao (ht:=fun hc=>?_) (hf:=fun hc=>?_);rw[if_pos hc]at he;refine LGo.seq (LGo.region rfl (af eV (h:=ag eP (h:=aa (h:=Reg.nil ⟨fun h=>(by cases h),LGo.seq (LGo.region rfl (af iP (h:=ag O9 (h:=ah (cj _ _ _ _ _) (h:=Reg.nil ⟨fun h=>(by cases h),?_⟩)))))⟩)))));refine aj (ht:=fun hc2=>?_) (hf:=fun hc2=>?_);rw[if_pos hc2]at he;subst he;refine LGo.seq (LGo.region rfl (aa (h:=aa (h:=Reg.nil ⟨fun h=>(by cases h),?_⟩))));exact LGo.ret (aI Tryz.results163 hA hmd);rw[if_neg (by rw[hc2];simp)]at he;refine LGo.skip (LGo.seq (LGo.seq (LGo.region rfl (aB ch (h:=ae (h:=ai (es:=[_,_]) (fun _=>ma _ _) (h:=bd (h:=Reg.nil ⟨fun h=>(by cases h),?_⟩))))))));refine aj (ht:=fun hc3=>?_) (hf:=fun hc3=>?_);rw[if_pos hc3]at he;subst he;refine LGo.seq (LGo.region rfl (aa (h:=aa (h:=Reg.nil ⟨fun h=>(by cases h),?_⟩))));exact LGo.ret (aI Tryz.results163 hA hmd);exact absurd he.symm (by rw[if_neg (by rw[hc3];simp)];exact h0);rw[if_neg hc]at he;refine LGo.seq (LGo.region rfl (af eV (h:=ag eP (h:=ah (aC _ _ _ _ _ _) (h:=Reg.nil ⟨fun h=>(by cases h),?_⟩)))));refine aj (ht:=fun hc4=>?_) (hf:=fun hc4=>?_);rw[if_pos hc4]at he;subst he;refine LGo.seq (LGo.region rfl (aa (h:=aa (h:=Reg.nil ⟨fun h=>(by cases h),?_⟩))));exact LGo.ret (aI Tryz.results163 hA hmd);rw[if_neg (by rw[hc4];simp)]at he;refine LGo.skip (LGo.seq (LGo.seq (LGo.region rfl (aB ch (h:=ae (h:=ai (es:=[_,_]) (fun _=>ma _ _) (h:=bd (h:=Reg.nil ⟨fun h=>(by cases h),?_⟩))))))));refine aj (ht:=fun hc5=>?_) (hf:=fun hc5=>?_);rw[if_pos hc5]at he;subst he;refine LGo.seq (LGo.region rfl (aa (h:=aa (h:=Reg.nil ⟨fun h=>(by cases h),?_⟩))));exact LGo.ret (aI Tryz.results163 hA hmd);exact absurd he.symm (by rw[if_neg (by rw[hc5];simp)];exact h0)
theorem Gy(bs:List (List SV))(r:Rule)(x:Fld)(hbs:bs.length≤100000)(ht0:0≤x.tag)(ht1:x.tag<256)(hn0:0≤x.num)(hn1:x.num<18446744073709551616)(hx:x.txt.length≤1000)(he:wE r x=0):LC Tryz.prog 163 1 [.ref 0,.agg (r.c.map LV.sv),.agg (x.c.map LV.sv)] [(0,.rs 5 1 bs)] (.tup [.ref 1,.i 0]) [(1,.rs 5 1 (bs++ic .u8 (mV r x)))] 1:=by
 refine LC.of_go Tryz.func163 (c:=_) rfl (by kernel_rfl) (by rw[Tryz.ntmps163];simp) rfl rfl (by simp[LO.lt,an,LV.lt]) (by simp) ?_;intro B hA hmd;unfold wE at he;have hdl:=mh x.num hn0 hn1;refine LGo.seq (LGo.region rfl (bg (h:=bg (h:=aa (h:=aa (h:=Reg.nil ⟨fun h=>(by cases h),LGo.seq (LGo.region rfl (af iP (h:=ag O9 (h:=bC Tryz.runUnderlying9 (h:=bS Tryz.runUnderlying3 Tryz.runUnderlying55 (h:=aa (h:=?_)))))))⟩))))));refine Reg.nil ⟨fun h=>(by cases h),LGo.seq (LGo.seq (LGo.region rfl (af fR (h:=ag O3 (h:=ah (av _ _ _ _ _ _) (h:=Reg.nil ⟨fun h=>(by cases h),?_⟩))))))⟩;refine ao (ht:=fun hc=>?_) (hf:=fun hc=>?_);rw[if_pos hc]at he;have e:mV r x=[x.tag,((fM x.num).length:Int)]++fM x.num:=by unfold mV;rw[if_pos hc]
 rw[e,wS,←List.append_assoc];refine LGo.seq (LGo.region rfl (af eV (h:=ag eP (h:=aa (h:=Reg.nil ⟨fun h=>(by cases h),LGo.seq (LGo.region rfl (af iP (h:=ag O9 (h:=ah (cj _ _ _ _ _) (h:=Reg.nil ⟨fun h=>(by cases h),?_⟩)))))⟩)))));refine aj (ht:=fun hc2=>?_) (hf:=fun hc2=>?_);rw[if_pos hc2]at he;simp at he;rw[if_neg (by rw[hc2];simp)]at he;refine LGo.skip (LGo.seq (LGo.seq (LGo.region rfl (aB ch (h:=ae (h:=ai (es:=[_,_]) (fun _=>ma _ _) (h:=bd (h:=Reg.nil ⟨fun h=>(by cases h),?_⟩))))))));refine aj (ht:=fun hc3=>?_) (hf:=fun hc3=>?_);rw[if_pos hc3]at he;simp at he;refine LGo.skip (LGo.seq (LGo.seq (LGo.region rfl (af fR (h:=ag O3 (h:=ah (av _ _ _ _ _ _) (h:=Reg.nil ⟨fun h=>(by cases h),?_⟩)))))));refine aj (ht:=fun hc4=>?_) (hf:=fun hc4=>by exact absurd hc (by simpa using hc4));refine LGo.seq (LGo.region rfl (aD Jj (h:=Reg.nil ⟨fun h=>(by cases h),LGo.seq (LGo.seq (LGo.region rfl (ae (h:=aK (es:=[_]) [] (CZ x.num) (h:=Reg.nil ⟨fun h=>(by cases h),LGo.block (aS 3 0 5 1 (h:=?_))⟩)))))⟩)));refine LGo.keep [(0,(true,.ref 0)),(4,(true,.ptr 1 0)),(5,(true,.ptr 2 0)),(8,(true,.u x.num)),(9,(true,.ptr 3 0)),(34,(true,.fn (.func 231) [] [.ptr 4 0]))] ([(0,.rs 5 1 bs),(1,.box 225 (r.c.map LV.sv)),(2,.box 221 (x.c.map LV.sv)),(3,.bx 52 [.v undef] 0 5 1 (ic .u8 ((fM x.num).take 0))),(4,.box 55 [.u x.num])]) ⟨rfl,rfl,rfl,rfl,rfl,rfl,trivial⟩ ⟨rfl,rfl,rfl,rfl,rfl,trivial⟩ ?_;refine lI (fun fn ac bc=>[(0,.rs 5 1 bs),(1,.box 225 (r.c.map LV.sv)),(2,.box 221 (x.c.map LV.sv)),(3,.bx 52 [.v undef] 0 5 1 (ic .u8 ((fM x.num).take (fM x.num).length))),(4,.box 55 [.u x.num]),(5,.raw (.deferred (some []))),(6,.loop fn Tryz.f163.ntmps [(0,(true,.ref 0)),(4,(true,.ptr 1 0)),(5,(true,.ptr 2 0)),(8,(true,.u x.num)),(9,(true,.ptr 3 0)),(34,(true,.fn (.func 231) [] [.ptr 4 0]))] #[35] ac bc .ready none)]) (hit:=fun fn ac bc hac hbc=>?_) (h:=fun fn=>?_);have hlen:(gV (fM x.num)).length=(fM x.num).length:=by simp[gV]
 refine E3 x.num hn0 hn1 (y:=6) (c:=4) (by decide) (by decide) ⟨rfl,by simp[LO.lt,an,LV.lt,aq],55,rfl⟩ ?_;have hrun:=sD (P:=Tryz.prog) (y:=6) (C:=eA 7 4 x.num) (gV (fM x.num)) (fun j=>[(0,.rs 5 1 bs),(1,.box 225 (r.c.map LV.sv)),(2,.box 221 (x.c.map LV.sv)),(3,.bx 52 [.v undef] 0 5 1 (ic .u8 ((fM x.num).take j))),(4,.box 55 [.u x.num]),(5,.raw (.deferred (some []))),(6,.loop fn Tryz.f163.ntmps [(0,(true,.ref 0)),(4,(true,.ptr 1 0)),(5,(true,.ptr 2 0)),(8,(true,.u x.num)),(9,(true,.ptr 3 0)),(34,(true,.fn (.func 231) [] [.ptr 4 0]))] #[35] ac bc .ready none)]) (fun j hj=>⟨rfl,by simp[LO.lt,an,LV.lt,aq],55,rfl⟩) (fun j hj=>?_);rw[hlen]at hrun;exact hrun;have hj':j<(fM x.num).length:=by rw[←hlen];exact hj
 have hd:(gV (fM x.num))[j]=[.y (fM x.num)[j]]:=by simp[gV]
 have htk:(fM x.num).take (j+1)=(fM x.num).take j++[(fM x.num)[j]]:=by rw[List.take_succ_eq_append_getElem hj']
 rw[hd,htk,←o6];generalize(fM x.num)[j]=dg;refine Dk 7 ((10,(true,.y dg))::(35,(true,.y dg))::[(0,(true,.ref 0)),(4,(true,.ptr 1 0)),(5,(true,.ptr 2 0)),(8,(true,.u x.num)),(9,(true,.ptr 3 0)),(34,(true,.fn (.func 231) [] [.ptr 4 0]))]) (hpN:=by rw[show Tryz.f163.ntmps=65 from Tryz.ntmps163];simp) (hA:=?_) (hB:=?_);intro l B' hA' hmd';subst hac;refine LGo.region rfl (aa (h:=Reg.nil ⟨fun h=>(by cases h),?_⟩));exact LGo.done (fun cx a w hr=>⟨rfl,cx,hr⟩);intro l B' hA' hmd';subst hbc;refine LGo.unpack 3 (h:=LGo.block (LGo.region rfl (ag xQ (h:=ae (h:=az dm (xs:=[_]) (es:=[_]) (hcs:=CellsOfs.cons (CellsOf.one rfl) CellsOfs.nil) (h:=aO dm (hs:=SrcOk.sl Tryz.underlying52 (by simp)) (hlen:=by rw[bp];simp;omega) (h:=aA xQ (h:=Reg.nil ⟨fun h=>(by cases h),LGo.inBlock (bJ 3 0 (h:=LGo.drop 7 (fun o h=>(hA' o).1 h) (by omega) [] ((6,.loop fn Tryz.f163.ntmps [(0,(true,.ref 0)),(4,(true,.ptr 1 0)),(5,(true,.ptr 2 0)),(8,(true,.u x.num)),(9,(true,.ptr 3 0)),(34,(true,.fn (.func 231) [] [.ptr 4 0]))] #[35] ac _ .busy none)::(5,.raw (.deferred (some [])))::[(0,.rs 5 1 bs),(1,.box 225 (r.c.map LV.sv)),(2,.box 221 (x.c.map LV.sv)),(3,.bx 52 [.v undef] 0 5 1 (ic .u8 ((fM x.num).take j)++[[.val (.int .u8 dg)]])),(4,.box 55 [.u x.num])]) trivial ⟨rfl,rfl,rfl,rfl,rfl,rfl,rfl,trivial⟩ (by simp) (by simp[LO.lt,an,LV.lt,aq]) (h:=?_)))⟩))))))));refine LGo.done (RoundEnd.go rfl (fun o z hz hne=>?_) rfl);rcases o with _|_|_|_|_|_|_|o<;>first|exact absurd rfl hne|exact hz
 rw[List.take_length];refine LGo.unpack 3 (h:=LGo.inBlock (LGo.seq (LGo.region rfl (ae (h:=af m8 (h:=ag O3 (h:=bS Tryz.runUnderlying3 Tryz.runUnderlying5 (h:=ag xQ (h:=eX Hn (h:=?_))))))))));rw[bp];refine bS Tryz.runUnderlying3 Tryz.runUnderlying5 (h:=az dm (xs:=[_,_]) (es:=[_,_]) (hcs:=CellsOfs.cons (CellsOf.one rfl) (CellsOfs.cons (CellsOf.one rfl) CellsOfs.nil)) (h:=aO dm (hs:=SrcOk.sl Tryz.underlying52 (by simp)) (hlen:=by simp;omega) (h:=ag xQ (h:=aO dm (hs:=SrcOk.rs Tryz.underlying52 (pG _ _)) (hlen:=by rw[bp];simp;omega) (h:=aa (h:=aa (h:=Reg.nil ⟨fun _=>⟨aQ,by rfl,by rfl⟩,?_⟩)))))));exact LGo.ret (fK (by rfl) (bF [0,9] (m2 Tryz.results163) hA hmd));rw[if_neg hc]at he;have e:mV r x=[x.tag,(x.txt.length:Int)/256,(x.txt.length:Int)%256]++pn x.txt:=by unfold mV;rw[if_neg hc]
 rw[e,wS,←List.append_assoc,←wi];refine LGo.seq (LGo.region rfl (af eV (h:=ag eP (h:=ah (aC _ _ _ _ _ _) (h:=Reg.nil ⟨fun h=>(by cases h),?_⟩)))));refine aj (ht:=fun hc5=>?_) (hf:=fun hc5=>?_);rw[if_pos hc5]at he;simp at he;rw[if_neg (by rw[hc5];simp)]at he;refine LGo.skip (LGo.seq (LGo.seq (LGo.region rfl (aB ch (h:=ae (h:=ai (es:=[_,_]) (fun _=>ma _ _) (h:=bd (h:=Reg.nil ⟨fun h=>(by cases h),?_⟩))))))));refine aj (ht:=fun hc6=>?_) (hf:=fun hc6=>?_);rw[if_pos hc6]at he;simp at he;refine LGo.skip (LGo.seq (LGo.seq (LGo.region rfl (af fR (h:=ag O3 (h:=ah (av _ _ _ _ _ _) (h:=Reg.nil ⟨fun h=>(by cases h),?_⟩)))))));refine aj (ht:=fun hc7=>by exact absurd (by simpa using hc7) hc) (hf:=fun hc7=>?_);refine LGo.skip (LGo.seq (LGo.region rfl (ae (h:=af m8 (h:=ag O3 (h:=bS Tryz.runUnderlying3 Tryz.runUnderlying5 (h:=ae (h:=kM (h:=?_)))))))));rw[show(x.txt.length:Int)/2^(min (Int.toNat 8) IntKind.u64.bits)=(x.txt.length:Int)/256 from rfl];refine bS Tryz.runUnderlying55 Tryz.runUnderlying5 (h:=ae (h:=dN Tryz.runUnderlying55 Tryz.runUnderlying5 (h:=?_)));rw[BI];refine az dm (xs:=[_,_,_]) (es:=[_,_,_]) (hcs:=CellsOfs.cons (CellsOf.one rfl) (CellsOfs.cons (CellsOf.one rfl) (CellsOfs.cons (CellsOf.one rfl) CellsOfs.nil))) (h:=aO dm (hs:=SrcOk.sl Tryz.underlying52 (by simp)) (hlen:=by simp;omega) (h:=af iP (h:=ag O9 (h:=aO dm (hs:=jd Tryz.underlying9) (hlen:=by rw[ba];simp;omega) (h:=aa (h:=aa (h:=Reg.nil ⟨fun _=>⟨aQ,by rfl,by rfl⟩,?_⟩)))))));exact LGo.ret (bF [0,4] (m2 Tryz.results163) hA hmd)
abbrev b0(b:List UInt8):UInt8:=(b[0]?).getD 0
abbrev b1(b:List UInt8):UInt8:=(b[1]?).getD 0
def H4(x y:Fld):Bool:=(decide (x.tag=y.tag)&&decide (x.num=y.num))&&decide (x.txt=y.txt)
def Bh:List Fld→List Fld→Bool
 |x::a,y::b=>if(!H4 x y)=true then false else Bh a b
 |_,_=>true
def same(a b:List Fld):Bool:=if(!decide ((a.length:Int)=b.length))=true then false else Bh a b
def gK(x:Fld):Prop:=0≤x.num∧x.num<18446744073709551616∧x.txt.length≤1000
theorem gE:∀(rs:List Rule) (last:Int),0≤last→dM last rs=0→∀r∈rs,last<r.tag∧r.tag≤63∧r.low≤r.high∧(r.kind=1∨(r.kind=2∧r.high≤400))
 |[],last,_,_,r,hr=>by simp at hr
 |q::rs,last,h0,h,r,hr=>by
  simp only[dM]at h;split at h;cases h
  rename_i h1;simp at h1;split at h;rename_i h2;rcases List.mem_cons.1 hr with rfl|hr
  exact⟨by omega,by omega,by omega,.inl h2⟩;have:=gE rs q.tag (by omega) h r hr;exact⟨by omega,this.2⟩;split at h;cases h
  rename_i h2 h3;simp at h3;rcases List.mem_cons.1 hr with rfl|hr
  exact⟨by omega,by omega,by omega,.inr ⟨h3.1,by omega⟩⟩;have:=gE rs q.tag (by omega) h r hr;exact⟨by omega,this.2⟩
theorem qa{rs:List Rule}(h:ig rs=0):rs.length≤16∧∀r∈rs,0<r.tag∧r.tag≤63∧r.low≤r.high∧(r.kind=1∨(r.kind=2∧r.high≤400)):=by
 unfold ig at h;split at h;cases h
 exact⟨by omega,gE rs 0 (by omega) h⟩
theorem lx{t:Int}{rs:List Rule}(h:dn t rs=true):du t rs∈rs∧(du t rs).tag=t:=by
 unfold dn at h;obtain⟨r,hr⟩:=Option.isSome_iff_exists.1 h;have e:du t rs=r:=by simp[du,hr]
 rw[e];exact⟨List.mem_of_find?_eq_some hr,by simpa using List.find?_some hr⟩
def gv(rs:List Rule):Int→List Fld→Int×List Int
 |_,[]=>(0,[])
 |last,x::xs=>if(!dn x.tag rs||decide (x.tag≤last))=true then(2,[])else if wE (du x.tag rs) x=0 then((gv rs x.tag xs).1,mV (du x.tag rs) x++(gv rs x.tag xs).2)else(wE (du x.tag rs) x,[])
def uq(rs:List Rule)(fs:List Fld):Bool:=(dC rs).any fun t=>!fi t fs
def dR(rs:List Rule)(fs:List Fld):List Int×Int:=
 if ig rs=0 then(if(16:Int)<fs.length then([],3)else if(gv rs 0 fs).1=0 then(if uq rs fs=true then([],4)else((gv rs 0 fs).2,0))else([],(gv rs 0 fs).1))else([],ig rs)
theorem CN(r:Rule)(x:Fld)(hx:gK x):(mV r x).length≤1100:=by
 have h:=mh x.num hx.1 hx.2.1;have h2:=hx.2.2;unfold mV;split<;>simp[rQ]<;>omega
theorem CT(rs:List Rule)(fs:List Fld)(hrs:rs.length≤100)(hfs:fs.length≤100)(hok:∀x∈fs,gK x):PC Tryz.prog 122 [.sv (.sl 5 (rs.map Rule.c)),.sv (.sl 3 (fs.map Fld.c))] (.tup [.sv (.sl 1 (ic .u8 (dR rs fs).1)),.i (dR rs fs).2]):=by
 refine⟨LC.of_go Tryz.func122 (c:=_) rfl (by kernel_rfl) (by rw[Tryz.ntmps122];simp) rfl rfl (by simp[LO.lt,an,LV.lt]) (by simp) ?_⟩;intro B hA hmd;obtain⟨g,e0⟩:∃g,dR rs fs=g:=⟨_,rfl⟩;have e1:=e0;unfold dR at e1;rw[e0];refine LGo.seq (LGo.region rfl (aa (h:=aa (h:=Reg.nil ⟨fun h=>(by cases h),LGo.seq (LGo.seq (LGo.region rfl (ae (h:=ai (es:=[_]) (fun _=>Ff _) (h:=aa (h:=Reg.nil ⟨fun h=>(by cases h),LGo.seq (LGo.region rfl ?_)⟩))))))⟩))));refine ae (h:=ah (aC _ _ _ _ _ _) (h:=Reg.nil ⟨fun h=>(by cases h),?_⟩));refine aj (ht:=fun hc=>?_) (hf:=fun hc=>?_);rw[if_neg (by simpa using hc)]at e1;rw[←e1];refine LGo.seq (LGo.region rfl (ae (h:=aa (h:=aa (h:=Reg.nil ⟨fun h=>(by cases h),bP 4 1 (h:=?_)⟩)))));exact LGo.ret (aI Tryz.results122 hA hmd);rw[if_pos (by simpa using hc)]at e1;have hck:=(qa (rs:=rs) (by simpa using hc)).2;refine LGo.skip (LGo.seq (LGo.seq (LGo.region rfl (ae (h:=aF F7 (h:=?_))))));rw[List.length_map];refine ah (aJ _ _ _ _ _ _) (h:=Reg.nil ⟨fun h=>(by cases h),?_⟩);refine ao (ht:=fun hc2=>?_) (hf:=fun hc2=>?_);rw[if_pos hc2]at e1;rw[←e1];refine LGo.seq (LGo.region rfl (aa (h:=aa (h:=Reg.nil ⟨fun h=>(by cases h),bP 4 1 (h:=?_)⟩))));exact LGo.ret (aI Tryz.results122 hA hmd);rw[if_neg hc2]at e1;refine LGo.skip (LGo.seq (LGo.region rfl (aa (h:=Reg.nil ⟨fun h=>(by cases h),LGo.seq (LGo.region rfl (aa (h:=Reg.nil ⟨fun h=>(by cases h),LGo.seq (LGo.seq (LGo.region rfl (ae (h:=aF F7 (h:=?_)))))⟩)))⟩))));rw[List.length_map];refine ae (h:=Reg.nil ⟨fun h=>(by cases h),LGo.block (LGo.loop (bZ 7 5 1 (h:=?_)))⟩);refine ay (σ:=Nat×Int×List Int) (fun x=>x.1≤fs.length∧x.2.2.length≤1100*x.1∧gv rs 0 fs=((gv rs x.2.1 (fs.drop x.1)).1,x.2.2++(gv rs x.2.1 (fs.drop x.1)).2)) (fun x=>[(29,(true,.i (x.1:Nat))),(8,(true,.i x.2.1)),(7,(true,.ref 0))]) (fun x=>[(0,.rs 5 1 (ic .u8 x.2.2))]) (fun x=>fs.length-x.1) ((0,0,[])) [(0,_),(1,_),(27,_),(28,_)] ⟨by simp,by simp,by simp⟩ (by repeat (first|exact trivial|refine⟨rfl,?_⟩)) (by repeat (first|exact trivial|refine⟨rfl,?_⟩)) (by repeat (first|exact trivial|refine⟨rfl,?_⟩)) ?_;rintro⟨k,last,acc⟩ ⟨hk,hal,hq⟩ ih;dsimp only at*;refine LGo.seq (LGo.region rfl (ah (au _ _ _ _ _ _) (h:=Reg.nil ⟨fun h=>(by cases h),LGo.seq ?_⟩)));refine ao (ht:=fun hc3=>?_) (hf:=fun hc3=>?_);have hlt:k<fs.length:=by omega
 have hx:(fs.map Fld.c)[((k:Nat):Int).toNat]?=some (fs[k].c):=by simp[hlt]
 have hd:fs.drop k=fs[k]::fs.drop (k+1):=List.drop_eq_getElem_cons hlt;rw[hd]at hq;have hxo:=hok fs[k] (List.getElem_mem hlt);generalize fs[k]=x at hx hq hxo;clear hd;refine LGo.skip (LGo.seq (LGo.block (LGo.seq (LGo.region rfl (aw F8 (hj:=fun hg=>⟨by omega,hx⟩) (h:=aR cT (h:=aD ui (h:=ar cT (h:=Reg.nil ⟨fun h=>(by cases h),LGo.seq (LGo.region rfl (ae (h:=af m8 (h:=?_))))⟩)))))))));refine ag O3 (h:=ai (es:=[_,_]) (fun _=>B7 _ _ (by assumption)) (h:=ae (h:=ak (h:=ak (h:=aD ph (h:=ar ch (h:=aa (h:=Reg.nil ⟨fun h=>(by cases h),LGo.seq (LGo.seq (LGo.region rfl (ae (h:=bd (h:=?_)))))⟩))))))));refine ae (h:=af m8 (h:=ag O3 (h:=ae (h:=ah (cb _ _ _ _ _ _) (h:=aX (h:=Reg.nil ⟨fun h=>(by cases h),?_⟩))))));refine aj (ht:=fun hc4=>?_) (hf:=fun hc4=>?_);have e2:gv rs last (x::fs.drop (k+1))=(2,[]):=by simp only[gv];exact if_pos hc4
 rw[hq,e2,if_neg (by simp)]at e1;rw[←e1];refine LGo.seq (LGo.region rfl (aa (h:=aa (h:=Reg.nil ⟨fun h=>(by cases h),bP 4 1 (h:=?_)⟩))));exact LGo.ret (aI Tryz.results122 hA hmd);have e2:=gv.eq_2 rs last x (fs.drop (k+1));rw[if_neg (by rw[show(!dn x.tag rs||decide (x.tag≤last))=false from hc4];simp)]at e2;have hh4:dn x.tag rs=true:=by simp at hc4;exact hc4.1
 have hm:=lx hh4;have htg:=hck _ hm.1;rw[hm.2]at htg;have hfl:=CN (du x.tag rs) x hxo;refine LGo.skip (LGo.seq (LGo.region rfl (ae (h:=aB ch (h:=aB cT (h:=?_))))));by_cases hE:wE (du x.tag rs) x=0;rw[if_pos hE]at e2;rw[e2]at hq;refine aK (es:=[_,_,_]) [0] (Gy (ic .u8 acc) (du x.tag rs) x (by rw[bp];omega) (by omega) (by omega) hxo.1 hxo.2.1 hxo.2.2 hE) (h:=ae (h:=ak (h:=ak (h:=aa (h:=aa (h:=Reg.nil ⟨fun h=>(by cases h),LGo.seq (LGo.seq (LGo.region rfl (ae (h:=ah (aC _ _ _ _ _ _) (h:=Reg.nil ⟨fun h=>(by cases h),?_⟩)))))⟩))))));refine aj (ht:=fun hc5=>by simp at hc5) (hf:=fun hc5=>?_);refine LGo.skip (LGo.region rfl (ae (h:=af m8 (h:=ag O3 (h:=aa (h:=aa (h:=Reg.nil ⟨fun _=>⟨aQ,by rfl,by rfl⟩,LGo.inBlock (LGo.region rfl (aG (h:=ae (h:=Reg.nil ⟨fun h=>(by cases h),LGo.inLoop ?_⟩))))⟩)))))));exact bM [3] (b:=0) (fun o h=>by have:=(hA o).1 h;omega) (ih (k+1,x.tag,acc++mV (du x.tag rs) x) ⟨hlt,by simp;omega,by rw[hq];simp⟩ (by simp;omega)) (by repeat (first|exact trivial|refine⟨rfl,?_⟩)) ⟨by rw[wS];rfl,trivial⟩;rw[if_neg hE]at e2;rw[hq,e2,if_neg hE]at e1;rw[←e1];refine aK (es:=[_,_,_]) [0] (Ev (ic .u8 acc) (du x.tag rs) x (by rw[bp];omega) (by omega) (by omega) hxo.1 hxo.2.1 hxo.2.2 _ rfl hE) (h:=ae (h:=ak (h:=ak (h:=aa (h:=aa (h:=Reg.nil ⟨fun h=>(by cases h),LGo.seq (LGo.seq (LGo.region rfl (ae (h:=ah (aC _ _ _ _ _ _) (h:=Reg.nil ⟨fun h=>(by cases h),?_⟩)))))⟩))))));refine aj (ht:=fun hc6=>?_) (hf:=fun hc6=>by exact absurd (by simpa using hc6) hE);refine LGo.seq (LGo.region rfl (ae (h:=aa (h:=aa (h:=Reg.nil ⟨fun h=>(by cases h),bP 4 1 (h:=?_)⟩)))));exact LGo.ret (aI Tryz.results122 hA hmd);have hk':k=fs.length:=by omega
 subst hk';rw[List.drop_length]at hq;simp only[gv,List.append_nil]at hq;rw[hq,if_pos rfl]at e1;have hnl:=r6 rs;refine LGo.exit rfl (LGo.seq (LGo.seq (LGo.region rfl (ae (h:=ai (es:=[_]) (fun _=>EB _ (by assumption)) (h:=aF iE (h:=?_)))))));rw[show(nU (dC rs)).length=(dC rs).length from by simp[nU]];refine ae (h:=Reg.nil ⟨fun h=>(by cases h),LGo.block (LGo.loop ?_)⟩);refine ay (σ:=Nat) (fun x=>x≤(dC rs).length∧uq rs fs=((dC rs).drop x).any fun t=>!fi t fs) (fun x=>[(65,(true,.i (x:Nat)))]) (fun x=>[(0,.rs 5 1 (ic .u8 acc))]) (fun x=>(dC rs).length-x) (0) [(1,_),(7,_),(63,_),(64,_)] ⟨by simp,by simp[uq]⟩ (by repeat (first|exact trivial|refine⟨rfl,?_⟩)) (by repeat (first|exact trivial|refine⟨rfl,?_⟩)) (by repeat (first|exact trivial|refine⟨rfl,?_⟩)) ?_;rintro j ⟨hj,hq2⟩ ih;refine LGo.seq (LGo.region rfl (ah (au _ _ _ _ _ _) (h:=Reg.nil ⟨fun h=>(by cases h),LGo.seq ?_⟩)));refine ao (ht:=fun hc7=>?_) (hf:=fun hc7=>?_);have hlt:j<(dC rs).length:=by omega
 have hx:(nU (dC rs))[((j:Nat):Int).toNat]?=some [.val (.int .i64 (dC rs)[j])]:=by simp[nU,hlt]
 rw[List.drop_eq_getElem_cons hlt,List.any_cons]at hq2;generalize(dC rs)[j]=t at hx hq2;refine LGo.skip (LGo.seq (LGo.block (LGo.seq (LGo.region rfl (aw jH (hj:=fun hg=>⟨by omega,hx⟩) (h:=aM O3 (h:=aa (h:=Reg.nil ⟨fun h=>(by cases h),LGo.seq (LGo.region rfl (ae (h:=ae (h:=ai (es:=[_,_]) (fun _=>ET _ _ (by assumption)) (h:=?_)))))⟩))))))));refine ae (h:=ak (h:=ak (h:=aD ui (h:=ar cT (h:=aa (h:=Reg.nil ⟨fun h=>(by cases h),LGo.seq (LGo.region rfl (ae (h:=bd (h:=Reg.nil ⟨fun h=>(by cases h),?_⟩))))⟩))))));refine aj (ht:=fun hc8=>?_) (hf:=fun hc8=>?_);rw[if_pos (by rw[hq2];simp at hc8;simp[hc8])]at e1;rw[←e1];refine LGo.seq (LGo.region rfl (aa (h:=aa (h:=Reg.nil ⟨fun h=>(by cases h),bP 4 1 (h:=?_)⟩))));exact LGo.ret (aI Tryz.results122 hA hmd);rw[show(!fi t fs)=false from hc8,Bool.false_or]at hq2;refine LGo.skip (LGo.inBlock (LGo.region rfl (aG (h:=ae (h:=Reg.nil ⟨fun h=>(by cases h),LGo.inLoop ?_⟩)))));exact LGo.next _ (fun o h=>by have:=(hA o).1 h;omega) (by omega) (ih (j+1) ⟨hlt,hq2⟩ (by omega)) (by repeat (first|exact trivial|refine⟨rfl,?_⟩)) (by repeat (first|exact trivial|refine⟨rfl,?_⟩));have hj':j=(dC rs).length:=by omega
 subst hj';rw[List.drop_length]at hq2;rw[if_neg (by rw[hq2];simp)]at e1;rw[←e1];refine LGo.exit rfl (LGo.seq (LGo.region rfl (ae (h:=aa (h:=aa (h:=Reg.nil ⟨fun h=>(by cases h),dG 4 (h:=?_)⟩))))));exact LGo.ret (aI Tryz.results122 hA hmd)
end Go.Proofs.YtgkhfpfjokagfaaGreatDoor