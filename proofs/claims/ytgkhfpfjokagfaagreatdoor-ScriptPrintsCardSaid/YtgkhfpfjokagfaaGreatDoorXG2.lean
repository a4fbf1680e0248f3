/- Part of the proof of this claim: walks and laws that it leans on; no condition. -/
import Derived.Test.YtgkhfpfjokagfaaGreatDoorXG1
import Derived.Laws.StructEq
import Derived.Deep.Slices
import Derived.Deep.Fields
import Derived.ChangeSame
import Derived.Carry
import Derived.ProofKit
import Derived.OpenShut
import Derived.Laws.Small
import Derived.Laws.CopyRow
import Derived.RowKit
import Derived.RowKit2
import Derived.WideKeyArgs
set_option linter.unusedSimpArgs false
set_option linter.unusedVariables false
namespace Go.Proofs.YtgkhfpfjokagfaaGreatDoor
section
variable{P:Program}{r:Option Nat}{N:Nat}{D:List Nat}{B:bG}{all:Array Oper}{K:List (Nat×Ct)→St→Prop}
variable{i:Nat}{ops:List Oper}{tr:List (Nat×Ct)}{E:List (Nat×bB)}{L:List (Nat×LO)}{n:Nat}{g:Bool}{gn:List (Nat×bB)}
variable{d ty:Nat}{pos:String}{aft:Array Edge}{gd:Option (Nat×Bool)}
theorem cQ{fn:Fn}{first cap:Array Operand}{es fs:List bB}{us vs:List LV}
 (ho:all[i]?=some ⟨some d,.makeFunc fn first cap,ty,pos,aft,gd⟩:=by rfl)(hg:GuardOk (en E) all gd g gn:=by first|exact gN|exact gS rfl rfl)
 (hx:first.toList.map (aP (en E))=es.map some:=by rfl)(hy:cap.toList.map (aP (en E))=fs.map some:=by rfl)
 (hes:g=true→es.map bD=us:=by first|exact fun _=>rfl|(intro h;simp[bD,h];done)|(intro h;simp only[List.map_cons,List.map_nil,fG h];first|done|rfl))(hfs:g=true→fs.map bD=vs:=by first|exact fun _=>rfl|(intro h;simp[bD,h];done)|(intro h;simp only[List.map_cons,List.map_nil,fG h];rfl))
 (h:Reg P r N D B all (i+1) ops ((i,bK gn (first.toList++cap.toList) (es++fs) (some d) (g,.fn fn us vs) [])::tr) (st ((d,(g,.fn fn us vs))::E) L n) K):
 Reg P r N D B all i (⟨some d,.makeFunc fn first cap,ty,pos,aft,gd⟩::ops) tr (st E L n) K:=by
 have hl:(Oper.mk (some d) (.makeFunc fn first cap) ty pos aft gd).op.operands.toList=first.toList++cap.toList:=by simp[Op.operands]
 refine dF (es:=es++fs) (rd:=[]) (out:= .fn fn us vs) ho hg ?_ (by simp) (fun hgt=>?_) ?_;rw[hl];exact bw (by rw[List.map_append,hx,hy,List.map_append]);refine dY (by simp) fun md n0 cx H ρ w _ _ hv=>?_;rw[hl,List.map_append,hes hgt,hfs hgt,List.map_append]at hv;obtain⟨a,b,hab,ha,hb⟩:=Vs.split hv;have hlen:a.length=first.toList.length:=by
  rw[ha.length,←hes hgt,List.length_map];have:=congrArg List.length hx;simpa using this.symm
 have hsplit:=List.append_inj hab.symm (by rw[hlen,List.length_map]);refine⟨.func fn (first.map ρ) (cap.map ρ),by simp[execOp,Instr.makeFunc],?_⟩;simp only[V];refine⟨a,b,?_,ha,hb⟩;rw[hsplit.1,hsplit.2];congr 1<;>(apply Array.ext';simp);rw[hl];exact h
theorem uJ{m n o:Nat}(h:o<m):sg (List.range m) n o=o:=by simp[sg,List.getD_eq_getElem?_getD,h]
mutual
theorem mapI_of_lt{σ:Nat→Nat}{m:Nat}(h:∀o,o<m→σ o=o):∀l:LV,l.lt m=true→l.mapI σ=l
 |.sv s,_=>by simp[LV.mapI]
 |.agg cs,hl=>by simp only[LV.mapI];rw[cZ h cs (by simpa[LV.lt]using hl)]
 |.tup cs,hl=>by simp only[LV.mapI];rw[cZ h cs (by simpa[LV.lt]using hl)]
 |.ptr o off,hl=>by simp only[LV.mapI];rw[h o (by simpa[LV.lt]using hl)]
 |.ref o,hl=>by simp only[LV.mapI];rw[h o (by simpa[LV.lt]using hl)]
 |.fn f p q,hl=>by
  simp only[LV.lt,Bool.and_eq_true]at hl;simp only[LV.mapI];rw[cZ h p hl.1,cZ h q hl.2]
 |.yld o,hl=>by simp only[LV.mapI];rw[h o (by simpa[LV.lt]using hl)]
 |.sub o off len cap,hl=>by simp only[LV.mapI];rw[h o (by simpa[LV.lt]using hl)]
 |.pv _,_=>by simp[LV.mapI]
theorem cZ{σ:Nat→Nat}{m:Nat}(h:∀o,o<m→σ o=o):∀l:List LV,an m l=true→aV σ l=l
 |[],_=>by simp[aV]
 |c::cs,hl=>by
  simp only[an,Bool.and_eq_true]at hl;simp only[aV];rw[mapI_of_lt h c hl.1,cZ h cs hl.2]
end
theorem LO.mapI_of_lt{σ:Nat→Nat}{m:Nat}(h:∀o,o<m→σ o=o):∀x:LO,x.lt m=true→x.mapI σ=x
 |.box T cs,hl=>by simp only[LO.mapI];rw[cZ h cs hl]
 |.row T sz xs,hl=>by
  simp only[LO.mapI];congr 1;simp only[LO.lt,List.all_eq_true]at hl;exact(List.map_congr_left (fun a ha=>cZ h a (hl a ha))).trans (List.map_id _)
 |.rs T sz ys,_=>rfl
 |.bx T cs k Te sz ys,hl=>by simp only[LO.mapI];rw[cZ h cs hl]
 |.raw x,_=>rfl
 |.loop fn N E ps a b st pd,hl=>by
  simp only[LO.mapI,sR];congr 1;exact(List.map_congr_left (fun p hp'=>by rw[Go.Proofs.YtgkhfpfjokagfaaGreatDoor.mapI_of_lt h _ (List.all_eq_true.1 hl p hp')];rfl)).trans (List.map_id _)
theorem cH{f m:Nat}{fo:Operand}{args:Array Operand}{ats:Array TypeId}{es:List bB}{avs first cap:List LV}{out:LV}{Hi:List (Nat×LO)}(hc:LC P f m (first++avs++cap) Hi out Hi 0)
 (ho:all[i]?=some ⟨some d,.call {callee:= .value fo,args:=args,argTypes:=ats},ty,pos,aft,none⟩:=by rfl)
 (hf:aP (en E) fo=some (true,.fn (.func f) first cap):=by rfl)
 (hx:args.toList.map (aP (en E))=es.map some:=by rfl)(hes:es.map bD=avs:=by rfl)(hm:m≤n:=by omega)(hL:∀k x,hp Hi k=some x→hp L k=some x)(hol:out.lt m=true:=by rfl)
 (h:Reg P r N D B all (i+1) ops ((i,⟨bA (fo::args.toList) ((true,.fn (.func f) first cap)::es),some d,(true,out),[],Hi,Hi,[]⟩)::tr) (st ((d,(true,out))::E) L n) K):
 Reg P r N D B all i (⟨some d,.call {callee:= .value fo,args:=args,argTypes:=ats},ty,pos,aft,none⟩::ops) tr (st E L n) K:=by
 have hl:(Oper.mk (some d) (.call {callee:= .value fo,args:=args,argTypes:=ats}) ty pos aft none).op.operands.toList=fo::args.toList:=by simp[Op.operands,Go.Call.operands]
 have hσ:∀o,o<m→sg (List.range m) n o=o:=fun o ho=>uJ ho;have hHi:(Hi.map fun p=>(sg (List.range m) n p.1,p.2.mapI (sg (List.range m) n)))=Hi:=by
  refine(List.map_congr_left (fun p hp'=>?_)).trans (List.map_id _);have:=hc.his p hp';rw[hσ _ this.1,LO.mapI_of_lt hσ _ this.2];rfl
 have hc':LC P f (List.range m).length (first++avs++cap) Hi out Hi 0:=by rw[List.length_range];exact hc
 have h2:=OpC.call (r:=r) (n:=n) (ids:=List.range m) (k:=0) (Ho:=Hi) hc' (List.nodup_range) (o:=⟨some d,.call {callee:= .value fo,args:=args,argTypes:=ats},ty,pos,aft,none⟩) rfl rfl (first:=first) (cap:=cap) (avs:=es.map bD)
  (by rw[cZ hσ _ hc.args,hes])
 rw[hHi,mapI_of_lt hσ _ hol]at h2;refine Reg.cons (c:=⟨bA (fo::args.toList) ((true,.fn (.func f) first cap)::es),some d,(true,out),[],Hi,Hi,[]⟩) (fun hN=>?_) ⟨fun p hp'=>?_,by simp,hL,by simp⟩ ?_;have:=ft (r:=r) (D:=D) (B:=B) (o:=⟨some d,.call {callee:= .value fo,args:=args,argTypes:=ats},ty,pos,aft,none⟩) (es:=(true,.fn (.func f) first cap)::es) (E:=en E) ho hN.dst gN (fun _=>h2) (by rw[hl];exact⟨_,_,rfl,hf,bw hx⟩) (.inl rfl);rw[hl]at this;simpa using this;have hop:Opnds (en E) (fo::args.toList) ((true,.fn (.func f) first cap)::es):=⟨_,_,rfl,hf,bw hx⟩;exact hop.need p hp';have:(Ct.app ⟨bA (fo::args.toList) ((true,.fn (.func f) first cap)::es),some d,(true,out),[],Hi,Hi,[]⟩ (st E L n))=st ((d,(true,out))::E) L n:=by
  simp only[Ct.app,cX,fL];congr 1;funext k;simp only[Hp.upd];cases hk:hp Hi k with
  |some x=>exact(hL k x hk).symm
  |none=>rfl
  funext k;simp
 rw[this];exact h
theorem Ef(t:Nat)(x y:Operand)(k:IntKind)(a b:Int)(ha:0≤a)(hb:0<b)(hw:k.wrap (a/b)=a/b):∀w,(do eqGuard .quo t x y (.int k a) (.int k b);binOp .quo t (.int k a) (.int k b):Sem Value).run P w= .ok (.int k (a/b)) w:=
 mX .quo rfl t x y k a b fun w=>by
  have hb':b≠0:=by omega
  simp[binOp,Op.intDiv,hb',Int.tdiv_eq_ediv_of_nonneg ha,hw]
theorem Ee(t:Nat)(x y:Operand)(k:IntKind)(a b:Int)(ha:0≤a)(hb:0<b):∀w,(do eqGuard .rem t x y (.int k a) (.int k b);binOp .rem t (.int k a) (.int k b):Sem Value).run P w= .ok (.int k (a%b)) w:=
 mX .rem rfl t x y k a b fun w=>by
  have hb':b≠0:=by omega
  simp[binOp,Op.intDiv,hb',Int.tmod_eq_emod_of_nonneg ha]
theorem Ec(t:Nat)(x y:Operand)(k yk:IntKind)(a b:Int)(hb:0≤b):∀w,(do eqGuard .shr t x y (.int k a) (.int yk b);binOp .shr t (.int k a) (.int yk b):Sem Value).run P w= .ok (.int k (a/2^(min b.toNat k.bits))) w:=by
 intro w;have hb':¬b<0:=by omega
 have hd:(0:Int)≤2^(min b.toNat k.bits):=Int.le_of_lt (Int.pow_pos (by omega));simp[eqGuard,binOp,Op.shift,hb',Int.fdiv_eq_ediv_of_nonneg _ hd]
theorem Ed(t:Nat)(x y:Operand)(k yk:IntKind)(a b:Int)(hb:0≤b):∀w,(do eqGuard .shl t x y (.int k a) (.int yk b);binOp .shl t (.int k a) (.int yk b):Sem Value).run P w= .ok (.int k (k.wrap (a*2^(min b.toNat k.bits)))) w:=by
 intro w;have hb':¬b<0:=by omega
 simp[eqGuard,binOp,Op.shift,hb']
theorem uv{t yt:Nat}{x y:Operand}{gx gy:Bool}{k:IntKind}{a b:Int}(ho:all[i]?=some ⟨some d,.binOp .quo t x y yt,ty,pos,aft,gd⟩:=by rfl)(hg:GuardOk (en E) all gd g gn:=by first|exact gN|exact gS rfl rfl)
 (hx:aP (en E) x=some (gx,.v (.int k a)):=by rfl)(hy:aP (en E) y=some (gy,.v (.int k b)):=by rfl)
 (hgx:g=true→gx=true:=by first|exact fun _=>rfl|exact id)(hgy:g=true→gy=true:=by first|exact fun _=>rfl|exact id)
 (ha:0≤a:=by omega)(hb:0<b:=by omega)
 (hw:k.wrap (a/b)=a/b:=by first|exact wrap_i64 (by omega) (by omega)|exact pE rfl (by omega) (by(try simp only[IntKind.bits]);omega))
 (h:Reg P r N D B all (i+1) ops ((i,bK gn [x,y] [(gx,.v (.int k a)),(gy,.v (.int k b))] (some d) (g,.v (.int k (a/b))) [])::tr) (st ((d,(g,.v (.int k (a/b))))::E) L n) K):
 Reg P r N D B all i (⟨some d,.binOp .quo t x y yt,ty,pos,aft,gd⟩::ops) tr (st E L n) K:=
 ah (Ef t x y k a b ha hb hw) ho hg hx hy hgx hgy h
theorem AX{t yt:Nat}{x y:Operand}{gx gy:Bool}{k:IntKind}{a b:Int}(ho:all[i]?=some ⟨some d,.binOp .rem t x y yt,ty,pos,aft,gd⟩:=by rfl)(hg:GuardOk (en E) all gd g gn:=by first|exact gN|exact gS rfl rfl)
 (hx:aP (en E) x=some (gx,.v (.int k a)):=by rfl)(hy:aP (en E) y=some (gy,.v (.int k b)):=by rfl)
 (hgx:g=true→gx=true:=by first|exact fun _=>rfl|exact id)(hgy:g=true→gy=true:=by first|exact fun _=>rfl|exact id)
 (ha:0≤a:=by omega)(hb:0<b:=by omega)
 (h:Reg P r N D B all (i+1) ops ((i,bK gn [x,y] [(gx,.v (.int k a)),(gy,.v (.int k b))] (some d) (g,.v (.int k (a%b))) [])::tr) (st ((d,(g,.v (.int k (a%b))))::E) L n) K):
 Reg P r N D B all i (⟨some d,.binOp .rem t x y yt,ty,pos,aft,gd⟩::ops) tr (st E L n) K:=
 ah (Ee t x y k a b ha hb) ho hg hx hy hgx hgy h
theorem kM{t yt:Nat}{x y:Operand}{gx gy:Bool}{k yk:IntKind}{a b:Int}(ho:all[i]?=some ⟨some d,.binOp .shr t x y yt,ty,pos,aft,gd⟩:=by rfl)(hg:GuardOk (en E) all gd g gn:=by first|exact gN|exact gS rfl rfl)
 (hx:aP (en E) x=some (gx,.v (.int k a)):=by rfl)(hy:aP (en E) y=some (gy,.v (.int yk b)):=by rfl)
 (hgx:g=true→gx=true:=by first|exact fun _=>rfl|exact id)(hgy:g=true→gy=true:=by first|exact fun _=>rfl|exact id)
 (hb:0≤b:=by omega)
 (h:Reg P r N D B all (i+1) ops ((i,bK gn [x,y] [(gx,.v (.int k a)),(gy,.v (.int yk b))] (some d) (g,.v (.int k (a/2^(min b.toNat k.bits)))) [])::tr) (st ((d,(g,.v (.int k (a/2^(min b.toNat k.bits)))))::E) L n) K):
 Reg P r N D B all i (⟨some d,.binOp .shr t x y yt,ty,pos,aft,gd⟩::ops) tr (st E L n) K:=
 ah (Ec t x y k yk a b hb) ho hg hx hy hgx hgy h
theorem Dp{T:Nat}(hT:∀w,(underlying T).run P w= .ok .string w){x y:Operand}{gx gy:Bool}{s:ByteArray}{k:IntKind}{j:Int}{c:UInt8}
 (ho:all[i]?=some ⟨some d,.index T x y,ty,pos,aft,gd⟩:=by rfl)(hg:GuardOk (en E) all gd g gn:=by first|exact gN|exact gS rfl rfl)
 (hx:aP (en E) x=some (gx,.s s):=by rfl)(hy:aP (en E) y=some (gy,.v (.int k j)):=by rfl)
 (hgx:g=true→gx=true:=by first|exact fun _=>rfl|exact id)(hgy:g=true→gy=true:=by first|exact fun _=>rfl|exact id)
 (hj:0≤j∧s.data.toList[j.toNat]?=some c)
 (h:Reg P r N D B all (i+1) ops ((i,bK gn [x,y] [(gx,.s s),(gy,.v (.int k j))] (some d) (g,.y c.toNat) [])::tr) (st ((d,(g,.y c.toNat))::E) L n) K):
 Reg P r N D B all i (⟨some d,.index T x y,ty,pos,aft,gd⟩::ops) tr (st E L n) K:=
 Reg.two rfl (fun h=>by
  rw[aE h hgx,aE h hgy];refine bj (x:=x) (y:=y) rfl (by simp) fun md n0 cx H ρ w _ _ v1 v2=>?_;obtain⟨h0,h1⟩:=hj;refine⟨.int .u8 c.toNat,?_,aZ⟩;have hs:s[j.toNat]?=some c:=by
   have hlt:=(List.getElem?_eq_some_iff.1 h1).1;have hsz:j.toNat<s.size:=by simpa using hlt
   have he:=(List.getElem?_eq_some_iff.1 h1).2;simp only[getElem?,decidableGetElem?,hsz,dif_pos];simp only[Array.getElem_toList]at he;exact congrArg some he
  simp[execOp,Instr.index,asIntOf,v1.val,v2.val,hT w,h0,hs]) ho hg hx hy (by simp) h
def aL(l:List UInt8):List (List SV):=l.map fun b=>[.val (.int .u8 b.toNat)]
theorem VSR.bytes{pr:Nat→Nat}{w:World}{b:Nat}:∀{l:List UInt8} {off:Nat},VSR pr w b off 1 (aL l)→∀j (hj:j<l.length),w.cell? ⟨b,off+j,none⟩=some (.int .u8 (l[j].toNat:Int))
 |[],off,_,j,hj=>by simp at hj
 |c::l,off,h,j,hj=>by
  simp only[aL,List.map_cons,VSR,VSC,VS]at h;obtain⟨_,⟨⟨v,h1,_,h2⟩,_⟩,h3⟩:=h;subst h2;cases j with
  |zero=>simpa using h1
  |succ j=>
   have:=VSR.bytes (l:=l) h3 j (by simpa using hj);rw[show off+1+j=off+(j+1)from by omega]at this;simpa using this
theorem cn{s t e:Nat}(hs:P.underlying s=some (.slice e))(he:P.underlying e=some (.int .u8))(ht:P.underlying t=some .string){x:Operand}{gx:Bool}{l:List UInt8}
 (ho:all[i]?=some ⟨some d,.convert s t x,ty,pos,aft,gd⟩:=by rfl)(hg:GuardOk (en E) all gd g gn:=by first|exact gN|exact gS rfl rfl)
 (hx:aP (en E) x=some (gx,.sv (.sl 1 (aL l))):=by rfl)(hgx:g=true→gx=true:=by first|exact fun _=>rfl|exact id)
 (h:Reg P r N D B all (i+1) ops ((i,bK gn [x] [(gx,.sv (.sl 1 (aL l)))] (some d) (g,.s ⟨l.toArray⟩) [])::tr) (st ((d,(g,.s ⟨l.toArray⟩))::E) L n) K):
 Reg P r N D B all i (⟨some d,.convert s t x,ty,pos,aft,gd⟩::ops) tr (st E L n) K:=
 Reg.one rfl (fun h=>by
  rw[aE h hgx];refine bm (x:=x) rfl (by simp) fun md n0 cx H ρ w _ _ hvv=>?_;refine⟨.string ⟨l.toArray⟩,?_,aZ⟩;simp only[V,VS]at hvv;rcases hvv with⟨h1|⟨ad,cap,h1,_⟩,h2⟩|⟨b,off,cap,h1,_,_,_,h3⟩
  have hl:l=[]:=by cases l with
   |nil=>rfl
   |cons a l=>simp[aL]at h2
  subst hl;simp[execOp,h1,run_convert_bytes_nil (P:=P) w s e hs he 0 0];have:=run_convert_bytes_string (P:=P) w s t e none 0 0 hs he ht;rw[this];simp[Conv.bytesToString];rfl;have hl:l=[]:=by cases l with
   |nil=>rfl
   |cons a l=>simp[aL]at h2
  subst hl;have:=run_convert_bytes_back (P:=P) w s t e ad cap [] hs he ht (fun j hj=>by simp at hj);simp only[List.length_nil]at this;simp[execOp,h1,this];have hlen:(aL l).length=l.length:=by simp[aL]
  have:=run_convert_bytes_back (P:=P) w s t e ⟨b,off,none⟩ cap l hs he ht (fun j hj=>by
   have hadd:(⟨b,off,none⟩:Addr).add j=⟨b,off+j,none⟩:=by unfold Addr.add;split<;>simp_all
   rw[hadd];exact VSR.bytes h3 j hj)
  rw[hlen]at h1;simp[execOp,h1,this]) ho hg hx (by simp) h
end
end Go.Proofs.YtgkhfpfjokagfaaGreatDoor
namespace Go.Proofs.YtgkhfpfjokagfaaGreatDoor
section
variable{P:Program}{r:Option Nat}{N:Nat}{D:List Nat}{B:bG}{Ψ:Exit→Act→World→Prop}{todo:List Item}{S:St}
variable{E:List (Nat×bB)}{L:List (Nat×LO)}{n:Nat}
theorem jU{T TB sz N:Nat}{o:Nat}{cs:List LV}(hF:dO P T sz){cx:Cx}{a:Act}{w:World}(hr:Rel B N D (st E L n) cx a w){t:Nat}
 (ht:en E t=some (true,.ptr o 0))(hb:hp L o=some (.box TB cs))(hc:cs.length=sz):
 ∃v ad,a.tmps.getD t undef= .pointer (some ad)∧(loadVar T ad).run P w= .ok v w∧V cx w (.agg cs) v:=by
 have hv:=(hr.env t _ ht).1 rfl;simp only[V]at hv;obtain⟨hA,b,hbk,he⟩:=hv;obtain⟨b',vs,k1,k2,k3⟩:=(hr.heap.ok o _ hb).2;rw[k1]at hbk;simp only[bk,Option.some.injEq]at hbk;subst hbk;refine⟨.agg vs.toArray,_,he,?_,by simp only[V];exact⟨vs,rfl,k3⟩⟩;have hl:(loadCells ⟨b',0,none⟩ vs.length).run P w= .ok vs.toArray w:=run_loadCells_list (P:=P) w ⟨b',0,none⟩ vs (fun j v hv=>by
  have hadd:(⟨b',0,none⟩:Addr).add j=⟨b',j,none⟩:=by unfold Addr.add;split<;>simp_all
  rw[hadd];simp[World.cell?,k2,hv])
 rw[k3.length,hc]at hl;simp[loadVar,hF.1 w,hF.2 w,hl]
theorem VSC.of_list{pr:Nat→Nat}{w:World}{b:Nat}{cur:Array Value}{T:TypeId}(hg:w.heap[b]?=some (.cells cur T (0,0))):∀(cs:List SV) (vs:List Value) (off:Nat),
 vs.length=cs.length→(∀j,j<vs.length→cur[off+j]?=vs[j]?)→(∀u∈vs,u.oneCell'=true)→(∀(j:Nat) (c:SV) (v:Value),cs[j]?=some c→vs[j]?=some v→VS pr w c v)→VSC pr w b off cs
 |[],vs,off,_,_,_,_=>by simp[VSC]
 |c::cs,[],off,hl,_,_,_=>by simp at hl
 |c::cs,v::vs,off,hl,hc,h1,hv=>by
  simp only[VSC];refine⟨⟨v,?_,h1 v (by simp),hv 0 c v rfl rfl⟩,VSC.of_list hg cs vs (off+1) (by simpa using hl) (fun j hj=>?_) (fun u hu=>h1 u (by simp[hu])) (fun j c' v' hc' hv'=>hv (j+1) c' v' (by simpa using hc') (by simpa using hv'))⟩;have:=hc 0 (by simp);simp only[Nat.add_zero,List.getElem?_cons_zero]at this;simp[World.cell?,hg,this];have:=hc (j+1) (by simpa using hj);rw[show off+1+j=off+(j+1)from by omega];simpa using this
theorem VSR.of_list{pr:Nat→Nat}{w:World}{b:Nat}{cur:Array Value}{T:TypeId}(hg:w.heap[b]?=some (.cells cur T (0,0))){sz:Nat}:∀(xs:List (List SV)) (vs:List Value) (off:Nat),
 (∀e∈xs,e.length=sz)→vs.length=xs.length*sz→(∀j,j<vs.length→cur[off+j]?=vs[j]?)→(∀u∈vs,u.oneCell'=true)→
 (∀(j:Nat) (c:SV) (v:Value),xs.flatten[j]?=some c→vs[j]?=some v→VS pr w c v)→VSR pr w b off sz xs
 |[],vs,off,_,_,_,_,_=>by simp[VSR]
 |e::xs,vs,off,he,hl,hc,h1,hv=>by
  have hel:e.length=sz:=he e (by simp);simp only[List.length_cons,Nat.add_mul,Nat.one_mul]at hl;simp only[VSR];refine⟨hel,VSC.of_list hg e (vs.take sz) off (by simp;omega) (fun j hj=>?_) (fun u hu=>h1 u (List.mem_of_mem_take hu)) (fun j c v hcj hvj=>?_),VSR.of_list hg xs (vs.drop sz) (off+sz) (fun e' he'=>he e' (by simp[he'])) (by simp;omega) (fun j hj=>?_) (fun u hu=>h1 u (List.mem_of_mem_drop hu)) (fun j c v hcj hvj=>?_)⟩;simp only[List.length_take]at hj;rw[hc j (by omega),List.getElem?_take,if_pos (by omega)];have hj:j<sz:=by rw[←hel];exact(List.getElem?_eq_some_iff.1 hcj).1
  rw[List.getElem?_take,if_pos hj]at hvj;exact hv j c v (by rw[List.flatten_cons,List.getElem?_append_left (by omega)];exact hcj) hvj;simp only[List.length_drop]at hj;rw[List.getElem?_drop,show off+sz+j=off+(sz+j)from by omega];exact hc (sz+j) (by omega);rw[List.getElem?_drop]at hvj;refine hv (sz+j) c v ?_ hvj;rw[List.flatten_cons,List.getElem?_append_right (by omega),hel,Nat.add_sub_cancel_left];exact hcj
def kE(o:Nat)(s:SV):List (Nat×bB)→List (Nat×bB)
 |[]=>[]
 |(t,(g,.ref q))::l=>(t,(g,if q=o then .sv s else .ref q))::kE o s l
 |(t,(g,e))::l=>(t,(g,e))::kE o s l
def cI(o:Nat)(L:List (Nat×LO)):List (Nat×LO):=L.filter (fun p=>!(p.1==o))
theorem vo{o:Nat}{s:SV}:∀{E:List (Nat×bB)} {t:Nat} {e:bB},en (kE o s E) t=some e→∃e0,en E t=some e0∧e0.1=e.1∧(e0.2=e.2∨(e0.2= .ref o∧e.2= .sv s))
 |[],t,e,h=>by simp[kE]at h
 |(k,(g,lv))::E,t,e,h=>by
  have step:∀x:LV,en ((k,(g,x))::kE o s E) t=some e→(x=lv∨(lv= .ref o∧x= .sv s))→∃e0,en ((k,(g,lv))::E) t=some e0∧e0.1=e.1∧(e0.2=e.2∨(e0.2= .ref o∧e.2= .sv s)):=by
   intro x hx hxl;simp only[en,List.lookup_cons]at hx⊢;cases hk:(t==k)with
   |true=>
    rw[hk]at hx;cases hx
    refine⟨_,rfl,rfl,?_⟩;rcases hxl with rfl|⟨rfl,rfl⟩
    exact .inl rfl;exact .inr ⟨rfl,rfl⟩
   |false=>rw[hk]at hx;exact vo hx
  cases lv with
  |ref q=>
   simp only[kE]at h;by_cases hq:q=o;rw[if_pos hq]at h;exact step _ h (.inr ⟨by rw[hq],rfl⟩);rw[if_neg hq]at h;exact step _ h (.inl rfl)
  |_=>simp only[kE]at h;exact step _ h (.inl rfl)
theorem Rel.freeze(o:Nat){T sz:Nat}{xs:List (List LV)}{ys:List (List SV)}(hb:hp L o=some (.row T sz xs))(hy:xs=ys.map (List.map LV.sv))
 {cx:Cx}{a:Act}{w:World}(hr:Rel B N D (st E L n) cx a w):∃cx',Rel B N D (st (kE o (.sl sz ys) E) (cI o L) n) cx' a w:=by
 obtain⟨hAo,hsz,vs,hown,hvs,hones⟩:=hr.heap.ok o _ hb
 let blk?:=bk (cx.loc o)
 let pr':Nat→Nat:=fun b=>if some b=bk (cx.loc o)then ys.length*sz else cx.pr b
 let c2:Cx:=⟨pr',cx.A,cx.loc,cx.inn⟩
 have hpr0:∀b,some b=bk (cx.loc o)→cx.pr b=0∧b<w.heap.size∧(B.w.heap.size≤b∨B.md b):=fun b hbb=>hr.heap.own o _ b hb (.inl hbb.symm);have hext:Ext cx.pr w pr' w:=fun b off hbo=>by
  refine⟨?_,rfl⟩;show off<(if some b=bk (cx.loc o)then _ else _);split;rename_i hh;have:=(hpr0 b hh).1;omega;exact hbo
 have hle:CxLe cx c2:=fun q hq=>⟨hq,rfl⟩;have hyl:xs.length=ys.length:=by rw[hy];simp
 have hsl:∀x,x=cx.loc o→VS pr' w (.sl sz ys) x:=by
  rintro x rfl;simp only[VS];rcases hown.2 with⟨e1,e2⟩|⟨gb,cap,cur,e1,_,e2,e3,e4,e5,e6⟩
  left;refine⟨.inl e1,?_⟩;apply List.eq_nil_of_length_eq_zero;omega;right;have hbk:some gb=bk (cx.loc o):=by rw[e1];rfl
  refine⟨gb,0,cap,by rw[e1,hyl],by omega,e4,?_,?_⟩;show 0+ys.length*sz≤(if some gb=bk (cx.loc o)then ys.length*sz else _);rw[if_pos hbk];omega;have hvl:vs.length=ys.length*sz:=by rw[hown.1,hyl]
  refine VSR.of_list e2 ys vs 0 (fun e he=>?_) hvl (fun j hj=>?_) hones (fun j c v hc hv=>?_);have:=hsz (e.map LV.sv) (by rw[hy];exact List.mem_map.2 ⟨e,he,rfl⟩);simpa using this;rw[Nat.zero_add,←e6,List.getElem?_take,if_pos (by rw[hyl,←hvl];exact hj)];simp;have hc':xs.flatten[j]?=some (.sv c):=by
   rw[hy,←List.map_flatten,List.getElem?_map,hc];rfl
  obtain⟨v',hv',hV⟩:=hvs.get hc';rw[hv]at hv';cases hv'
  simp only[V]at hV;exact VS.mono hext c v hV
 have del:∀q x,hp (cI o L) q=some x→q≠o∧hp L q=some x:=by
  intro q x hx;simp only[cI,hp]at hx;rw[fA (fun k=>!(k==o))]at hx;split at hx;rename_i hh;exact⟨by simpa using hh,hx⟩;cases hx
 refine⟨c2,⟨⟨hr.grow.os,hr.grow.tape,hr.grow.output,hr.grow.size,hr.grow.same,fun b hbs hmd=>?_,hr.grow.ext.trans hext⟩,hr.le.trans hle,hr.hA,⟨fun q x hx=>?_,fun q x b hx hbq=>?_,fun q q' x x' b hne hx hx' hbq=>?_,fun b hbp=>?_⟩,hr.size,fun t e he=>?_,hr.df,hr.dA⟩⟩;show(if some b=bk (cx.loc o)then _ else cx.pr b)=_;split;rename_i hh;rcases(hpr0 b hh).2.2 with h1|h1
 omega;exact absurd h1 hmd;exact hr.grow.prs b hbs hmd;obtain⟨_,hx'⟩:=del q x hx;obtain⟨k1,k2⟩:=hr.heap.ok q x hx';exact⟨k1,ObjOk.mono hle hext k1 (fun _ _ _=>rfl) rfl k2⟩;obtain⟨hne,hx'⟩:=del q x hx;obtain⟨k1,k2,k3⟩:=hr.heap.own q x b hx' hbq;refine⟨?_,k2,k3⟩;show(if some b=bk (cx.loc o)then _ else cx.pr b)=0;rw[if_neg (fun hh=>hr.heap.inj q o x _ b hne hx' hb hbq (.inl hh.symm))];exact k1;exact hr.heap.inj q q' x x' b hne (del q x hx).2 (del q' x' hx').2 hbq;change 0<(if some b=bk (cx.loc o)then _ else cx.pr b)at hbp;split at hbp;rename_i hh;exact(hpr0 b hh).2.1;exact hr.heap.lim b hbp;obtain⟨e0,h1,h2,h3⟩:=vo he;have h0:=hr.env t e0 h1;refine⟨fun hg=>?_,fun hg=>h0.2 (by rw[h2];exact hg)⟩;have hv:=h0.1 (by rw[h2];exact hg);rcases h3 with h3|⟨h3,h4⟩
 rw[h3]at hv;exact V.mono hle hext _ _ hv;rw[h3]at hv;rw[h4];simp only[V]at hv⊢;exact hsl _ hv.2.1
theorem LGo.freeze(o:Nat){T sz:Nat}{xs:List (List LV)}{ys:List (List SV)}(hb:hp L o=some (.row T sz xs))(hy:xs=ys.map (List.map LV.sv))
 (h:LGo P r N D B Ψ todo (st (kE o (.sl sz ys) E) (cI o L) n)):LGo P r N D B Ψ todo (st E L n):=
 LGo.conv (fun cx a w hr=>Rel.freeze o hb hy hr) h
end
end Go.Proofs.YtgkhfpfjokagfaaGreatDoor
namespace Go.Proofs.YtgkhfpfjokagfaaGreatDoor
theorem nt:∀(vs:List Value) (k off:Nat) (C:Array Value),off+k+vs.length≤C.size→
 ((vs.zipIdx k).foldl (fun(cs:Array Value) p=>cs.setIfInBounds (off+p.2) p.1) C).toList=C.toList.take (off+k)++vs++C.toList.drop (off+k+vs.length)
 |[],k,off,C,_=>by simp
 |v::vs,k,off,C,h=>by
  simp only[List.length_cons]at h;simp only[List.zipIdx_cons,List.foldl_cons];have hs:(C.setIfInBounds (off+k) v).size=C.size:=by simp
  rw[nt vs (k+1) off _ (by rw[hs];omega)];have ht:(C.setIfInBounds (off+k) v).toList=C.toList.set (off+k) v:=by simp
  rw[ht];have hlt:off+k<C.toList.length:=by simp;omega
  rw[List.set_eq_take_append_cons_drop,if_pos hlt];have e1:(List.take (off+k) C.toList).length=off+k:=by simp;omega
  rw[List.take_append,e1,List.take_take,Nat.min_eq_right (by omega),show off+(k+1)-(off+k)=1 from by omega];rw[List.drop_append,e1,List.drop_of_length_le (l:=List.take (off+k) C.toList) (by rw[e1];omega),show off+(k+1)+vs.length-(off+k)=vs.length+1 from by omega];simp only[List.take_succ_cons,List.take_zero,List.drop_succ_cons,List.drop_drop,List.nil_append,List.length_cons,List.append_assoc,List.cons_append];congr 4;all_goals omega
theorem p7(sz:Nat):∀(ps:List Value) (cells:List (List Value)) (k:Nat) (C:Array Value),ps.map Value.cells=cells.map List.toArray→(∀c∈cells,c.length=sz)→(k+ps.length)*sz≤C.size→
 ∃C',Instr.fill (fun i=>some (i*sz,sz)) C ((ps.zipIdx k).map fun p=>(p.2,p.1))=some C'∧C'.toList=C.toList.take (k*sz)++cells.flatten++C.toList.drop ((k+ps.length)*sz)
 |[],cells,k,C,hc,_,_=>by
  have:cells=[]:=by simpa using hc.symm
  subst this;exact⟨C,by simp[Instr.fill],by simp⟩
 |p::ps,[],k,C,hc,_,_=>by simp at hc
 |p::ps,c::cells,k,C,hc,hs,hl=>by
  simp only[List.map_cons,List.cons.injEq]at hc;obtain⟨h1,h2⟩:=hc;have hcl:c.length=sz:=hs c (by simp);simp only[List.length_cons]at hl;have hk:(k+(ps.length+1))*sz=k*sz+sz+ps.length*sz:=by rw[Nat.add_mul,Nat.add_mul];omega
  simp only[List.zipIdx_cons,List.map_cons,Instr.fill,h1];rw[if_neg (by simp[hcl];omega)];have hf:(c.toArray.zipIdx.foldl (fun(cs:Array Value) (x:Value×Nat)=>cs.setIfInBounds (k*sz+x.2) x.1) C).toList=C.toList.take (k*sz)++c++C.toList.drop (k*sz+c.length):=by
   have:=nt c 0 (k*sz) C (by omega);simp only[Nat.add_zero]at this;rw[←this,←Array.foldl_toList];simp
  obtain⟨C',g1,g2⟩:=p7 sz ps cells (k+1) (c.toArray.zipIdx.foldl (fun(cs:Array Value) (x:Value×Nat)=>cs.setIfInBounds (k*sz+x.2) x.1) C) h2 (fun c' hc'=>hs c' (by simp[hc'])) (by
   have:=congrArg List.length hf;simp only[Array.length_toList,List.length_append,List.length_take,List.length_drop]at this;rw[this,hcl];have:(k+1+ps.length)*sz=k*sz+sz+ps.length*sz:=by rw[Nat.add_mul,Nat.add_mul];omega
   omega)
  refine⟨C',g1,?_⟩;rw[g2,hf];have e1:(List.take (k*sz) C.toList++c).length=(k+1)*sz:=by simp[hcl,Nat.add_mul];omega
  rw[List.take_append,e1,Nat.sub_self,List.take_zero,List.append_nil,List.take_of_length_le (by omega)];rw[List.drop_append,e1,List.drop_of_length_le (by rw[e1];exact Nat.mul_le_mul_right _ (by omega)),List.drop_drop];simp only[List.nil_append,List.flatten_cons,List.append_assoc,List.length_cons];congr 4;have:(k+1+ps.length)*sz=k*sz+sz+ps.length*sz:=by rw[Nat.add_mul,Nat.add_mul];omega
  rw[this,hk,hcl,Nat.add_mul];omega
def AppF(P:Program)(t e sz:Nat):Prop:=P.underlying t=some (.slice e)∧
 ((P.info? e).map fun i=>(i.size==sz&&decide (i.bytes≤32*sz)&&((i.zero.map (·.cells.size))==some sz)))=some true
theorem AppF.get{P:Program}{t e sz:Nat}(h:AppF P t e sz):P.underlying t=some (.slice e)∧∃i z,P.info? e=some i∧i.zero=some z∧i.size=sz∧i.bytes≤32*sz∧z.cells.size=sz:=by
 obtain⟨h1,h2⟩:=h;refine⟨h1,?_⟩;cases hi:P.info? e with
 |none=>rw[hi]at h2;simp at h2
 |some i=>
  rw[hi]at h2;simp only[Option.map_some,Option.some.injEq,Bool.and_eq_true,beq_iff_eq,decide_eq_true_eq]at h2;obtain⟨⟨a,b⟩,c⟩:=h2;cases hz:i.zero with
  |none=>rw[hz]at c;simp at c
  |some z=>rw[hz]at c;simp at c;exact⟨i,z,rfl,hz,a,b,c⟩
section
variable{P:Program}{r:Option Nat}{N:Nat}{D:List Nat}{B:bG}{all:Array Oper}{K:List (Nat×Ct)→St→Prop}
variable{i:Nat}{ops:List Oper}{tr:List (Nat×Ct)}{E:List (Nat×bB)}{L:List (Nat×LO)}{n:Nat}{g:Bool}{gn:List (Nat×bB)}
variable{d ty:Nat}{pos:String}{aft:Array Edge}{gd:Option (Nat×Bool)}
def CellsOfs:List LV→List (List LV)→Prop
 |[],cs=>cs=[]
 |l::ls,cs=>∃c r,cs=c::r∧CellsOf l c∧CellsOfs ls r
theorem CellsOfs.nil:CellsOfs [] []:=rfl
theorem CellsOfs.cons{l:LV}{ls:List LV}{c:List LV}{cs:List (List LV)}(h:CellsOf l c)(t:CellsOfs ls cs):CellsOfs (l::ls) (c::cs):=⟨c,cs,rfl,h,t⟩
theorem CellsOfs.get:∀{ls:List LV} {cs:List (List LV)},CellsOfs ls cs→∀{cx:Cx} {w:World} {vs:List Value},Vs cx w ls vs→
 ∃us:List (List Value),vs.map Value.cells=us.map List.toArray∧us.length=cs.length∧(∀(j:Nat) (u:List Value) (c:List LV),us[j]?=some u→cs[j]?=some c→u.length=c.length)∧Vs cx w cs.flatten us.flatten∧∀u∈us.flatten,u.oneCell'=true
 |[],cs,h,cx,w,vs,hv=>by
  simp only[CellsOfs]at h;subst h;simp only[Vs]at hv;subst hv;exact⟨[],by simp,by simp,by simp,by simp[Vs],by simp⟩
 |l::ls,cs,h,cx,w,vs,hv=>by
  obtain⟨c,r',rfl,h1,h2⟩:=h;simp only[Vs]at hv;obtain⟨y,ys,rfl,hy,hys⟩:=hv;obtain⟨u,k1,k2,k3⟩:=h1 cx w y hy;obtain⟨us,g1,g2,g3,g4,g5⟩:=CellsOfs.get h2 hys;refine⟨u::us,by simp[k1,g1],by simp[g2],fun j u' c' hu hc=>?_,by simp only[List.flatten_cons];exact Vs.append k2 g4,fun v hv=>?_⟩;cases j with
  |zero=>simp at hu hc;subst hu;subst hc;exact k2.length
  |succ j=>exact g3 j u' c' (by simpa using hu) (by simpa using hc)
  simp only[List.flatten_cons,List.mem_append]at hv;rcases hv with hv|hv
  exact k3 v hv;exact g5 v hv
theorem tc{T sz:Nat}{md:Nat→Prop}{n0:Nat}{H:Hp}{cx:Cx}{w w0:World}(h:HOk md n0 cx H w){o:Nat}(ho:¬cx.A o)(hw:w0.heap=w.heap∧w0.os=w.os∧w0.tape=w.tape∧w0.output=w.output)
 {xs:List (List LV)}{vs:List Value}(hsz:∀e∈xs,e.length=sz)(hv:Vs cx w xs.flatten vs)(hone:∀u∈vs,u.oneCell'=true){cells:Array Value}{cap:Nat}(hlen:xs.length≤cap)(hcap:cap≤maxLen)(hcs:cells.size=cap*sz)(htk:cells.toList.take (xs.length*sz)=vs):
 ∃cx',Tr cx w (hp []) cx' (w0.alloc (.cells cells T)) (hp [(o,.row T sz xs)]) (·∈[o])∧V cx' (w0.alloc (.cells cells T)) (.ref o) (.slice (some ⟨w.heap.size,0,none⟩) xs.length cap):=by
 have hnew:(w0.alloc (.cells cells T)).heap[w.heap.size]?=some (.cells cells T):=by rw[←hw.1];exact heap_alloc_new w0 _
 obtain⟨cx',h1,h2,h3,h4⟩:=Tr.new (w0:=w0) h (ob:= .cells cells T) (o:=o) ho (lv:= .slice (some ⟨w.heap.size,0,none⟩) xs.length cap) (x:= .row T sz xs) hw rfl (fun cx' e1 e2 e3 e4=>by
  have hvl:vs.length=xs.length*sz:=by
   rw[hv.length,List.length_flatten];have:xs.map List.length=List.replicate xs.length sz:=by
    rw[List.eq_replicate_iff];refine⟨by simp,fun b hb=>?_⟩;obtain⟨e,he,rfl⟩:=List.mem_map.1 hb;exact hsz e he
   rw[this];simp
  refine⟨hsz,vs,⟨hvl,.inr ⟨w.heap.size,cap,cells,e1,Nat.zero_le _,hnew,hlen,hcap,hcs,htk⟩⟩,Vs.mono e3 (fun b off hb=>?_) _ vs hv,hone⟩;rw[e4];refine⟨hb,?_⟩;have:=h.lim b (by omega);simp only[World.cell?,heap_alloc_old w0 (.cells cells T) (by rw[hw.1];exact this),hw.1])
 refine⟨cx',h1,?_⟩;simp only[V];exact⟨h2,h3.symm,rfl⟩
theorem OpC.buildSlice{t e sz:Nat}(hF:AppF P t e sz){o:Oper}{len:Nat}{parts:Array (Nat×Operand)}{xs:List Operand}{ls:List LV}{cs:List (List LV)}
 (ho:o.op= .buildSlice t len parts)(hdd:∀c,o.op≠ .defer c)(hp':parts.toList=xs.zipIdx.map (fun p=>(p.2,p.1)))
 (hcs:CellsOfs ls cs)(hsz:(cs.all fun c=>c.length==sz)=true)(hlen:cs.length=len)(hsm:len*sz≤16777216)(hlm:len≤16777216)(n:Nat):
 OpC P r o ls [] [] (.ref n) [(n,.row e sz cs)] [n]:=by
 have hl:o.op.operands.toList=xs:=by
  rw[ho];show(parts.toList.map (·.2)).toArray.toList=xs;rw[hp'];simp only[List.map_map,List.toList_toArray];have:((fun(x:Nat×Operand)=>x.2)∘fun(p:Operand×Nat)=>(p.2,p.1))=Prod.fst:=rfl;rw[this];simp
 refine bO hdd (by simp) fun md n0 cx H ρ w hok _ _ hnew hv=>?_;obtain⟨ht,i0,z,hi,hz,hisz,_,hzs⟩:=hF.get;rw[hl]at hv;obtain⟨us,g1,g2,g3,g4,g5⟩:=hcs.get hv;have hcl:∀c∈cs,c.length=sz:=fun c hc=>by simpa using List.all_eq_true.1 hsz c hc
 have hul:∀u∈us,u.length=sz:=by
  intro u hu;obtain⟨j,hj⟩:=List.getElem?_of_mem hu;have hjl:j<cs.length:=by rw[←g2];exact(List.getElem?_eq_some_iff.1 hj).1
  rw[g3 j u cs[j] hj (List.getElem?_eq_getElem hjl)];exact hcl _ (List.getElem_mem hjl)
 have hxl:xs.length=len:=by
  have h1:=congrArg List.length g1;simp only[List.length_map]at h1;omega
 have hus:us.flatten.length=len*sz:=by
  rw[List.length_flatten];have:us.map List.length=List.replicate us.length sz:=by
   rw[List.eq_replicate_iff];refine⟨by simp,fun b hb=>?_⟩;obtain⟨e,he,rfl⟩:=List.mem_map.1 hb;exact hul e he
  rw[this];simp only[List.sum_replicate_nat];rw[show us.length=len from by omega]
 let C0:Array Value:=(Array.range (len*sz)).map (fun k=>(if len*sz=0 then#[]else z.cells)[k%(if len*sz=0 then#[]else z.cells).size]!)
 have hC0:C0.size=len*sz:=by simp[C0]
 obtain⟨C',f1,f2⟩:=p7 sz (xs.map ρ) us 0 C0 g1 hul (by rw[List.length_map,hC0,hxl];simp);have hC':C'.toList=us.flatten:=by
  rw[f2];simp only[Nat.zero_mul,List.take_zero,List.nil_append,Nat.zero_add,List.length_map,hxl];rw[List.drop_of_length_le (by simp[hC0])];simp
 have hCs:C'.size=len*sz:=by rw[←Array.length_toList,hC',hus]
 obtain⟨cx',t1,hv'⟩:=tc (T:=e) (w0:=w) (xs:=cs) (cells:=C') (cap:=len) hok (hnew n (by simp)) ⟨rfl,rfl,rfl,rfl⟩ hcl g4 g5 (by omega) (by unfold maxLen;omega) hCs (by rw[hC',hlen];exact List.take_of_length_le (by omega));rw[hlen]at hv';refine⟨_,_,_,cx',?_,.inl rfl,t1,hv'⟩;have hp2:(parts.map fun x=>(x.1,ρ x.2)).toList=((xs.map ρ).zipIdx 0).map fun p=>(p.2,p.1):=by
  rw[Array.toList_map,hp'];simp only[List.map_map,List.zipIdx_map];rfl
 have hop:(parts.map fun x=>(x.1,ρ x.2))=(((xs.map ρ).zipIdx 0).map fun p=>(p.2,p.1)).toArray:=by rw[←hp2]
 have hbig:¬len*sz>16777216:=by omega
 have hfill:Instr.fill (fun i=>some (i*sz,sz)) ((Array.range (len*sz)).map (fun k=>(if len*sz=0 then#[]else z.cells)[k%(if len*sz=0 then#[]else z.cells).size]!)) (((xs.map ρ).zipIdx 0).map fun p=>(p.2,p.1))=some C':=f1;by_cases h0:len*sz=0;simp only[h0,if_true]at hfill;simp[execOp,ho,Instr.buildSlice,run_underlying ht,sizeOf,typeInfo,hi,hisz,hop,h0,newRow];simp at hfill;rw[hfill];simp;simp only[h0,if_false]at hfill;simp only[execOp,ho,Instr.buildSlice,hop];simp[run_underlying ht,sizeOf,typeInfo,zeroValue,hi,hz,hisz,h0,newRow];rw[if_neg hbig];rw[hfill];simp
theorem tX{t e sz:Nat}(hF:AppF P t e sz){len:Nat}{parts:Array (Nat×Operand)}{xs:List Operand}{es:List bB}{cs:List (List LV)}
 (ho:all[i]?=some ⟨some d,.buildSlice t len parts,ty,pos,aft,none⟩:=by rfl)(hp':parts.toList=xs.zipIdx.map (fun p=>(p.2,p.1)):=by rfl)
 (hx:xs.map (aP (en E))=es.map some:=by rfl)(hcs:CellsOfs (es.map bD) cs:=by repeat (first|exact CellsOfs.nil|refine CellsOfs.cons (CellsOf.one rfl) ?_|refine CellsOfs.cons (CellsOf.agg rfl) ?_))(hsz:(cs.all fun c=>c.length==sz)=true:=by rfl)(hlen:cs.length=len:=by rfl)
 (hsm:len*sz≤16777216:=by first|decide|omega)(hlm:len≤16777216:=by first|decide|omega)
 (h:Reg P r N D B all (i+1) ops ((i,⟨bA xs es,some d,(true,.ref n),[],[],[(n,.row e sz cs)],[n]⟩)::tr) (st ((d,(true,.ref n))::E) ((n,.row e sz cs)::L) (n+1)) K):
 Reg P r N D B all i (⟨some d,.buildSlice t len parts,ty,pos,aft,none⟩::ops) tr (st E L n) K:=by
 have hl:(Oper.mk (some d) (.buildSlice t len parts) ty pos aft none).op.operands.toList=xs:=by
  show(parts.toList.map (·.2)).toArray.toList=xs;rw[hp'];simp only[List.map_map,List.toList_toArray];have:((fun(x:Nat×Operand)=>x.2)∘fun(p:Operand×Nat)=>(p.2,p.1))=Prod.fst:=rfl;rw[this];simp
 exact Reg.new (es:=es) (rd:=[]) ho gN (by rw[hl];exact bw hx) (by simp) (OpC.buildSlice hF rfl (by simp) hp' hcs hsz hlen hsm hlm n) (by rw[hl];exact h)
end
end Go.Proofs.YtgkhfpfjokagfaaGreatDoor
namespace Go.Proofs.YtgkhfpfjokagfaaGreatDoor
theorem Tr.mdle{cx cx':Cx}{w w':World}{Hi Ho:Hp}{new:Nat→Prop}(t:Tr cx w (hp []) cx' w' Ho new):Tr cx w Hi cx' w' Ho new:=by
 have hno:∀b,¬cf cx (hp []) b:=fun b ⟨o,x,hx,_⟩=>by simp at hx
 exact⟨t.le,t.A,⟨t.grow.os,t.grow.tape,t.grow.output,t.grow.size,fun b hb _=>t.grow.same b hb (hno b),fun b hb _=>t.grow.prs b hb (hno b),t.grow.ext⟩,
  ⟨t.heap.ok,fun o x b hx hb=>by
   obtain⟨h1,h2,h3⟩:=t.heap.own o x b hx hb;exact⟨h1,h2,h3.imp id (fun h=>absurd h (hno b))⟩,t.heap.inj,t.heap.lim⟩,fun o ho _=>t.inn o ho rfl⟩
def SrcOk(P:Program)(tx sz:Nat)(lv:LV)(rd:List (Nat×LO))(ys:List (List LV)):Prop:=
 (∀e∈ys,e.length=sz)∧∀(md:Nat→Prop) (n0:Nat) (cx:Cx) (H:Hp) (w:World) (v:Value),HOk md n0 cx H w→(∀o x,hp rd o=some x→H o=some x)→V cx w lv v→
  ∃news,Src P sz tx v ys.length news w∧Vs cx w ys.flatten news
theorem SrcOk.row{P:Program}{tx e' sz T o:Nat}{ys:List (List LV)}(hk:P.underlying tx=some (.slice e'))(hs:∀e∈ys,e.length=sz):SrcOk P tx sz (.ref o) [(o,.row T sz ys)] ys:=by
 refine⟨hs,fun md n0 cx H w v hok hrd hv=>?_⟩;obtain⟨_,_,vs,hown,hvs,hone⟩:=hok.ok o _ (hrd o (.row T sz ys) (by simp));simp only[V]at hv;obtain⟨_,rfl,_⟩:=hv;refine⟨vs,?_,hvs⟩;rcases hown.2 with⟨e1,e2⟩|⟨gb,cap,cur,e1,_,e2,e3,e4,e5,e6⟩
 have:vs=[]:=List.eq_nil_of_length_eq_zero (by rw[hown.1,e2];simp);rw[e1,this,e2];exact Src.ofNil w hk 0;rw[e1];refine Src.ofSlice w hk ⟨gb,0,none⟩ ys.length cap vs hown.1 (fun j u hu=>?_) hone;have hadd:(⟨gb,0,none⟩:Addr).add j=⟨gb,j,none⟩:=by unfold Addr.add;split<;>simp_all
 rw[hadd];rw[←e6,List.getElem?_take]at hu;split at hu;simp[World.cell?,e2];simpa using hu;cases hu
theorem VSR.vals{pr:Nat→Nat}{w:World}{b sz:Nat}:∀{xs:List (List SV)} {off:Nat},VSR pr w b off sz xs→
 ∃vs:List Value,vs.length=xs.length*sz∧(∀(j:Nat) (v:Value),vs[j]?=some v→w.cell? ⟨b,off+j,none⟩=some v)∧(∀u∈vs,u.oneCell'=true)∧
  ∀(cx:Cx),cx.pr=pr→Vs cx w (xs.map (List.map LV.sv)).flatten vs
 |[],off,_=>⟨[],by simp,by simp,by simp,fun cx _=>by simp[Vs]⟩
 |e::xs,off,h=>by
  simp only[VSR]at h;obtain⟨h1,h2,h3⟩:=h;obtain⟨us,k1,k2,k3⟩:=h2.vals;obtain⟨vs,g1,g2,g3,g4⟩:=VSR.vals h3;have hul:us.length=sz:=by rw[k1,h1]
  refine⟨us++vs,by simp[hul,g1,Nat.add_mul];omega,fun j v hj=>?_,fun u hu=>?_,fun cx hcx=>?_⟩;rcases Nat.lt_or_ge j us.length with hlt|hge
  rw[List.getElem?_append_left hlt]at hj;exact k2 j v hj;rw[List.getElem?_append_right hge]at hj;have:=g2 _ v hj
  rwa [show off+sz+(j-us.length)=off+j from by omega]at this
  rcases List.mem_append.1 hu with hu|hu
  obtain⟨j,hj⟩:=List.getElem?_of_mem hu;have hjl:j<e.length:=by rw[←k1];exact(List.getElem?_eq_some_iff.1 hj).1
  exact(k3 j e[j] u (List.getElem?_eq_getElem hjl) hj).1;exact g3 u hu;simp only[List.map_cons,List.flatten_cons];exact Vs.append (qg k1 (fun j c v h1 h2=>by rw[hcx];exact(k3 j c v h1 h2).2)) (g4 cx hcx)
theorem SrcOk.sl{P:Program}{tx e' sz:Nat}{ys:List (List SV)}(hk:P.underlying tx=some (.slice e'))(hs:∀e∈ys,e.length=sz):SrcOk P tx sz (.sv (.sl sz ys)) [] (ys.map (List.map LV.sv)):=by
 refine⟨fun e he=>?_,fun md n0 cx H w v hok hrd hv=>?_⟩;obtain⟨e',he',rfl⟩:=List.mem_map.1 he;rw[List.length_map];exact hs e' he';simp only[V,VS]at hv;rcases hv with⟨rfl|⟨ad,cap,rfl,_⟩,rfl⟩|⟨b,off,cap,rfl,_,_,hp',hr⟩
 exact⟨[],Src.ofNil w hk 0,by simp[Vs]⟩;exact⟨[],Src.ofSlice w hk ad 0 cap [] (by simp) (by simp) (by simp),by simp[Vs]⟩;obtain⟨vs,g1,g2,g3,g4⟩:=hr.vals;refine⟨vs,?_,g4 cx rfl⟩;rw[List.length_map];refine Src.ofSlice w hk ⟨b,off,none⟩ ys.length cap vs g1 (fun j u hu=>?_) g3;have hadd:(⟨b,off,none⟩:Addr).add j=⟨b,off+j,none⟩:=by unfold Addr.add;split<;>simp_all
 rw[hadd];exact g2 j u hu
def gX(l:List UInt8):List (List LV):=l.map fun b=>[.y b.toNat]
theorem Ao(l:List UInt8):(aL l).map (List.map LV.sv)=gX l:=by simp[aL,gX]
theorem xH(l:List UInt8):∀e∈gX l,e.length=1:=by simp[gX]
theorem SrcOk.str{P:Program}{tx:Nat}{s:ByteArray}(hk:P.underlying tx=some .string):SrcOk P tx 1 (.s s) [] (gX s.data.toList):=by
 refine⟨xH _,fun md n0 cx H w v hok hrd hv=>?_⟩;have:=hv.val;subst this;refine⟨byteCells s,?_,?_⟩;have:=Src.ofString (P:=P) w hk s;have hl:(gX s.data.toList).length=s.size:=by simp[gX]
 rw[hl];exact this;have:∀l:List UInt8,Vs cx w (gX l).flatten (l.map fun b=>Value.int .u8 b.toNat):=by
  intro l;induction l with
  |nil=>simp[gX,Vs]
  |cons a l ih=>
   simp only[gX,List.map_cons,List.flatten_cons,List.cons_append,List.nil_append,Vs]at ih⊢;exact⟨_,_,rfl,aZ,ih⟩
 exact this _
theorem nD{P:Program}(w:World)(t tx ty e:TypeId)(i:TypeInfo)(ht:P.underlying t=some (.slice e))(hi:P.info? e=some i)(g sLen sCap:Nat)(cur:Array Value)(hg:w.heap[g]?=some (.cells cur e (0,0)))
 (x:Value)(n:Nat)(news:List Value)(hs:Src P i.size tx x n news w)(hroom:sLen+n≤sCap)(hfit:sLen*i.size+news.length≤cur.size):
 (Builtin.append_ #[t,tx] ty #[.slice (some ⟨g,0,none⟩) sLen sCap,x]).run P w= .ok (.slice (some ⟨g,0,none⟩) (sLen+n) sCap) (w.setRow g (cur.toList.take (sLen*i.size)++news++cur.toList.drop (sLen*i.size+news.length)).toArray):=by
 have hst:=run_storeCells_at P g (sLen*i.size) e news 0 cur w hg (by simpa using hfit) hs.one;simp only[Nat.add_zero]at hst;rcases hs.kind with⟨e',hk⟩|hk<;>simp[Builtin.append_,run_underlying ht,run_underlying hk,sizeOf,typeInfo,hi,hs.len,hroom,hs.cells,Addr.add_lit,hst]
section
variable{P:Program}{r:Option Nat}{N:Nat}{D:List Nat}{B:bG}{all:Array Oper}{K:List (Nat×Ct)→St→Prop}
variable{i:Nat}{ops:List Oper}{tr:List (Nat×Ct)}{E:List (Nat×bB)}{L:List (Nat×LO)}{n:Nat}{g:Bool}{gn:List (Nat×bB)}
variable{d ty:Nat}{pos:String}{aft:Array Edge}{gd:Option (Nat×Bool)}
theorem lu{t tx e sz:Nat}(hF:AppF P t e sz)(h0:0<sz){md:Nat→Prop}{n0:Nat}{cx:Cx}{H:Hp}{w:World}(hok:HOk md n0 cx H w){o o':Nat}{xs ys:List (List LV)}(ho:H o=some (.row e sz xs))(hnew:¬cx.A o')
 {x:Value}{news:List Value}(hs:Src P sz tx x ys.length news w)(hys:∀e∈ys,e.length=sz)(hnv:Vs cx w ys.flatten news)(hlen:(xs.length+ys.length)*sz≤4398046511104)(ty:Nat):
 ∃v w' cx',(Builtin.append_ #[t,tx] ty #[cx.loc o,x]).run P w= .ok v w'∧Tr cx w (hp [(o,.row e sz xs)]) cx' w' (hp [(o',.row e sz (xs++ys))]) (·∈[o'])∧V cx' w' (.ref o') v:=by
 obtain⟨ht,i0,z,hi,hz,hisz,hiby,hzs⟩:=hF.get;subst hisz;obtain⟨hAo,hxs,vs,hown,hvs,hone⟩:=hok.ok o _ ho;have hall:∀e∈xs++ys,e.length=i0.size:=fun e he=>(List.mem_append.1 he).elim (hxs e) (hys e);have hvall:Vs cx w (xs++ys).flatten (vs++news):=by rw[List.flatten_append];exact Vs.append hvs hnv
 have hone':∀u∈vs++news,u.oneCell'=true:=fun u hu=>(List.mem_append.1 hu).elim (hone u) (hs.one u);have hnl:news.length=ys.length*i0.size:=hs.newsLen;have hvl:vs.length=xs.length*i0.size:=hown.1;have hsum:xs.length+ys.length≤4398046511104:=Nat.le_trans (by have:=Nat.mul_le_mul_left (xs.length+ys.length) h0;omega) hlen;have hbytes:(xs.length+ys.length)*i0.bytes≤140737488355328:=by
  have h1:(xs.length+ys.length)*i0.bytes≤(xs.length+ys.length)*(32*i0.size):=Nat.mul_le_mul_left _ hiby;have h2:(xs.length+ys.length)*(32*i0.size)=32*((xs.length+ys.length)*i0.size):=by rw[Nat.mul_left_comm]
  omega
 have grown:∀(base:Option Addr) (cap:Nat),cap<xs.length+ys.length→cx.loc o= .slice base xs.length cap→(Builtin.firstCells i0.size xs.length (.slice base xs.length cap)).run P w.drew= .ok vs.toArray w.drew→
  ∃v w' cx',(Builtin.append_ #[t,tx] ty #[cx.loc o,x]).run P w= .ok v w'∧Tr cx w (hp [(o,.row e i0.size xs)]) cx' w' (hp [(o',.row e i0.size (xs++ys))]) (·∈[o'])∧V cx' w' (.ref o') v:=by
  intro base cap hcap hloc hold;have hrun:=run_append_grow_src (P:=P) w t tx ty e i0 z ht hi hz base xs.length cap vs hold x ys.length news hs hcap (by omega) (growslice_fits hcap hbytes);have hge:=grownCap_ge w (xs.length+ys.length) cap e;have hcm:=grownCap_le_maxLen w (xs.length+ys.length) cap e (by unfold maxLen;omega);obtain⟨cx',h1,h2⟩:=tc (T:=e) (w0:=w.drew) (xs:=xs++ys) (vs:=vs++news) (cells:=(vs++news).toArray++Builtin.zeroCells z.cells (grownCap w (xs.length+ys.length) cap e-(xs.length+ys.length))) (cap:=grownCap w (xs.length+ys.length) cap e)
   hok hnew ⟨rfl,rfl,rfl,rfl⟩ hall hvall hone' (by rw[List.length_append];exact hge) hcm (by
    simp only[Array.size_append,List.size_toArray,size_zeroCells,hzs,List.length_append,hvl,hnl,←Nat.add_mul];congr 1;omega) (by
    simp only[Array.toList_append,List.length_append];have:(xs.length+ys.length)*i0.size=(vs++news).length:=by rw[List.length_append,hvl,hnl,Nat.add_mul]
    rw[this];exact List.take_left)
  rw[hloc];rw[List.length_append]at h2;exact⟨_,_,cx',hrun,h1.mdle,h2⟩
 rcases hown.2 with⟨e1,e2⟩|⟨gb,cap,cur,e1,_,e2,e3,e4,e5,e6⟩
 have hv0:vs=[]:=List.eq_nil_of_length_eq_zero (by rw[hvl,e2];simp);have hx0:xs=[]:=List.eq_nil_of_length_eq_zero e2;by_cases hy0:ys.length=0;have hy:ys=[]:=List.eq_nil_of_length_eq_zero hy0;subst hy hx0 hv0;have hn0:news=[]:=List.eq_nil_of_length_eq_zero (by rw[hnl];simp);subst hn0
 let cx':Cx:=⟨cx.pr,fun k=>cx.A k∨k∈[o'],fun k=>if k=o' then .slice none 0 0 else cx.loc k,cx.inn⟩
 have hle:CxLe cx cx':=fun k hk=>⟨.inl hk,by
  show(if k=o' then _ else cx.loc k)=_;rw[if_neg (by rintro rfl;exact hnew hk)]⟩
 have hlo:cx'.loc o'= .slice none 0 0:=by show(if o'=o' then _ else _)=_;simp
 have hAo':cx'.A o':= .inr (by simp);have one:∀k y,hp [(o',LO.row e i0.size ([]++[]))] k=some y→k=o'∧y= .row e i0.size []:=by
  intro k y hy;simp only[hp,List.lookup_cons]at hy;split at hy;rename_i hh;simp at hh;cases hy;exact⟨hh,rfl⟩
  simp at hy
 refine⟨.slice none 0 0,w,cx',?_,⟨hle,fun k=>Iff.rfl,Grow.refl _ _ _,⟨fun k y hy=>?_,fun k y b hy hb=>?_,fun k k' y y' b hne hy hy' _=>?_,hok.lim⟩,fun _ _ _=>rfl⟩,?_⟩;rw[e1];have hc0:=hs.cells;simp only[List.length_nil]at hc0;rcases hs.kind with⟨e',hk⟩|hk<;>simp[Builtin.append_,run_underlying ht,run_underlying hk,sizeOf,typeInfo,hi,hs.len,hc0]
 obtain⟨rfl,rfl⟩:=one k y hy;exact⟨hAo',by simp,[],by rw[hlo];exact World.ownsRow_nil w 0 e i0.size,by simp[Vs],by simp⟩;obtain⟨rfl,rfl⟩:=one k y hy;rw[cY rfl,hlo]at hb;cases hb
 obtain⟨rfl,rfl⟩:=one k y hy;obtain⟨rfl,rfl⟩:=one k' y' hy';exact absurd rfl hne;simp only[V];exact⟨hAo',hlo.symm,rfl⟩;refine grown none 0 (by omega) (by rw[e1,e2]) ?_;subst hv0;simp[Builtin.firstCells];by_cases hroom:xs.length+ys.length≤cap;have hfit:xs.length*i0.size+news.length≤cur.size:=by
  rw[hnl,e5,←Nat.add_mul];exact Nat.mul_le_mul_right _ hroom
 have hrun:=nD (P:=P) w t tx ty e i0 ht hi gb xs.length cap cur e2 x ys.length news hs hroom hfit
 let w':=w.setRow gb (cur.toList.take (xs.length*i0.size)++news++cur.toList.drop (xs.length*i0.size+news.length)).toArray
 have hbk:bk (cx.loc o)=some gb:=by rw[e1];rfl
 obtain⟨hpr,hlt,hmd⟩:=hok.own o _ gb ho (.inl hbk)
 let cx':Cx:=⟨cx.pr,fun k=>cx.A k∨k∈[o'],fun k=>if k=o' then .slice (some ⟨gb,0,none⟩) (xs.length+ys.length) cap else cx.loc k,cx.inn⟩
 have hle:CxLe cx cx':=fun k hk=>⟨.inl hk,by
  show(if k=o' then _ else cx.loc k)=_;rw[if_neg (by rintro rfl;exact hnew hk)]⟩
 have hlo:cx'.loc o'= .slice (some ⟨gb,0,none⟩) (xs.length+ys.length) cap:=by show(if o'=o' then _ else _)=_;simp
 have hAo':cx'.A o':= .inr (by simp);have hsame:∀k,k≠gb→w'.heap[k]?=w.heap[k]?:=fun k hk=>setRow_other w gb k _ hk;have hsz:w'.heap.size=w.heap.size:=by simp[w',World.setRow]
 have hext:Ext cx.pr w cx.pr w':=fun b off hb=>⟨hb,by
  have hb':b≠gb:=by rintro rfl;omega
  simp only[World.cell?,hsame b hb']⟩
 have hblk:cf cx (hp [(o,.row e i0.size xs)]) gb:=⟨o,.row e i0.size xs,by simp,.inl hbk⟩;have one:∀k y,hp [(o',LO.row e i0.size (xs++ys))] k=some y→k=o'∧y= .row e i0.size (xs++ys):=by
  intro k y hy;simp only[hp,List.lookup_cons]at hy;split at hy;rename_i hh;simp at hh;cases hy;exact⟨hh,rfl⟩
  simp at hy
 refine⟨_,w',cx',by rw[e1];exact hrun,⟨hle,fun k=>Iff.rfl,⟨rfl,rfl,rfl,by omega,fun k _ hk=>hsame k (by rintro rfl;exact hk hblk),fun _ _ _=>rfl,hext⟩,⟨fun k y hy=>?_,fun k y b hy hb=>?_,fun k k' y y' b hne hy hy' _=>?_,fun b hb=>by have:=hok.lim b hb;omega⟩,fun _ _ _=>rfl⟩,?_⟩;obtain⟨rfl,rfl⟩:=one k y hy;refine⟨hAo',hall,vs++news,⟨by rw[List.length_append,List.length_append,hvl,hnl,Nat.add_mul],.inr ⟨gb,cap,_,by rw[hlo,List.length_append],Nat.zero_le _,setRow_heap w gb cur _ e _ e2,by rw[List.length_append];exact hroom,e4,?_,?_⟩⟩,Vs.mono hle hext _ _ hvall,hone'⟩;simp only[List.size_toArray,List.length_append,List.length_take,List.length_drop,Array.length_toList];omega;rw[e6];have:(xs++ys).length*i0.size=(vs++news).length:=by rw[List.length_append,List.length_append,hvl,hnl,Nat.add_mul]
 rw[this];exact List.take_left;obtain⟨rfl,rfl⟩:=one k y hy;rw[cY rfl,hlo]at hb;cases hb
 exact⟨hpr,by rw[hsz];exact hlt,.inr hblk⟩;obtain⟨rfl,rfl⟩:=one k y hy;obtain⟨rfl,rfl⟩:=one k' y' hy';exact absurd rfl hne;simp only[V];exact⟨hAo',hlo.symm,rfl⟩;refine grown (some ⟨gb,0,none⟩) cap (by omega) e1 ?_;refine run_firstCells_some (P:=P) w.drew i0.size xs.length ⟨gb,0,none⟩ xs.length cap vs hvl (fun j u hu=>?_);have hadd:(⟨gb,0,none⟩:Addr).add j=⟨gb,j,none⟩:=by unfold Addr.add;split<;>simp_all
 rw[hadd];rw[←e6,List.getElem?_take]at hu;split at hu;have e2':w.drew.heap[gb]?=some (.cells cur e (0,0)):=e2;simp[World.cell?,e2'];simpa using hu;cases hu
theorem uE(L:List (Nat×LO))(o n:Nat)(x y:LO):hp (jA L [(o,x)] [(n,y)])=hp ((n,y)::cI o L):=by
 funext k;simp only[jA,cI,hp,List.map_cons,List.map_nil,List.cons_append,List.nil_append,List.lookup_cons];cases(k==n)with
 |true=>rfl
 |false=>
  simp only[];congr 2;funext p;by_cases hpo:p.1=o<;>simp[hpo]
theorem Dt{t tx e sz:Nat}(hF:AppF P t e sz){x y:Operand}{o:Nat}{xs ys:List (List LV)}{lv:LV}{rd:List (Nat×LO)}
 (ho:all[i]?=some ⟨some d,.call {callee:= .builtin .append,args:=#[x,y],argTypes:=#[t,tx]},ty,pos,aft,none⟩:=by rfl)
 (hx:aP (en E) x=some (true,.ref o):=by rfl)(hy:aP (en E) y=some (true,lv):=by rfl)(hb:hp L o=some (.row e sz xs):=by rfl)
 (hs:SrcOk P tx sz lv rd ys)(hrd:∀k x,hp rd k=some x→hp L k=some x)(h0:0<sz:=by decide)(hlen:(xs.length+ys.length)*sz≤4398046511104)
 (h:Reg P r N D B all (i+1) ops ((i,⟨bA [x,y] [(true,.ref o),(true,lv)],some d,(true,.ref n),rd,[(o,.row e sz xs)],[(n,.row e sz (xs++ys))],[n]⟩)::tr) (st ((d,(true,.ref n))::E) ((n,.row e sz (xs++ys))::cI o L) (n+1)) K):
 Reg P r N D B all i (⟨some d,.call {callee:= .builtin .append,args:=#[x,y],argTypes:=#[t,tx]},ty,pos,aft,none⟩::ops) tr (st E L n) K:=by
 refine gM (m:=1) (es:=[(true,.ref o),(true,lv)]) (rd:=rd) (Hi:=[(o,.row e sz xs)]) (Ho:=[(n,.row e sz (xs++ys))]) (out:= .ref n) ho gN ⟨_,_,rfl,hx,_,_,rfl,hy,rfl⟩ hrd (fun k z hz=>?_) ?_ ?_;simp only[hp,List.lookup_cons]at hz;split at hz;rename_i hh;simp at hh;cases hz;subst hh;exact hb
 simp at hz;refine bO (by simp) (by simp) fun md n0 cx H ρ w hok hrd' hHi hnew hv=>?_;have hop:(Oper.mk (some d) (.call {callee:= .builtin .append,args:=#[x,y],argTypes:=#[t,tx]}) ty pos aft none).op.operands.toList=[x,y]:=rfl;rw[hop]at hv;obtain⟨v1,v2⟩:=Vs.two hv;simp only[bD]at v1 v2;obtain⟨news,hsrc,hnv⟩:=hs.2 md n0 cx H w _ hok hrd' v2;simp only[V]at v1;obtain⟨v,w',cx',h1,h2,h3⟩:=lu (o':=n) hF h0 hok (hHi o (.row e sz xs) (by simp)) (hnew n (by simp)) hsrc hs.1 hnv hlen ty;refine⟨_,v,w',cx',?_,.inl rfl,h2,h3⟩;have hx':ρ x=cx.loc o:=v1.2.1;simp[execOp,resolve,invoke,builtin,hx',h1];have e1:st (fL (some d) (true,.ref n) E) (jA L [(o,.row e sz xs)] [(n,.row e sz (xs++ys))]) (n+1)=st ((d,(true,.ref n))::E) ((n,.row e sz (xs++ys))::cI o L) (n+1):=by
  simp only[st,uE,fL]
 rw[e1];exact h
theorem qY{Ψ:Exit→Act→World→Prop}{todo:List Item}(t T sz:Nat)(ht:en E t=some (true,.v (.slice none 0 0)))
 (h:LGo P r N D B Ψ todo (st ((t,(true,.ref n))::E) ((n,.row T sz [])::L) (n+1))):LGo P r N D B Ψ todo (st E L n):=by
 refine LGo.conv (fun cx a w hr=>?_) h;have hA:¬cx.A n:=by rw[hr.hA];show¬n<n;omega
 let cx':Cx:=⟨cx.pr,fun k=>cx.A k∨k=n,fun k=>if k=n then .slice none 0 0 else cx.loc k,cx.inn⟩
 have hle:CxLe cx cx':=fun k hk=>⟨.inl hk,by
  show(if k=n then _ else cx.loc k)=_;rw[if_neg (by rintro rfl;exact hA hk)]⟩
 have hlo:cx'.loc n= .slice none 0 0:=by show(if n=n then _ else _)=_;simp
 have hext:Ext cx.pr w cx'.pr w:=Ext.refl _ _;have split:∀q x,hp ((n,.row T sz [])::L) q=some x→(q=n∧x= .row T sz [])∨(q≠n∧hp L q=some x):=by
  intro q x hx;simp only[hp,List.lookup_cons]at hx;split at hx;rename_i hh;simp at hh;cases hx;exact .inl ⟨hh,rfl⟩
  rename_i hh;simp at hh;exact .inr ⟨hh,hx⟩
 have old:∀q x,hp L q=some x→∀b,cx'.has q x b↔cx.has q x b:=fun q x hx b=>by unfold Cx.has;rw[(hle q (hr.heap.ok q x hx).1).2]
 refine⟨cx',⟨hr.grow,hr.le.trans hle,?_,⟨fun q x hx=>?_,fun q x b hx hb=>?_,fun q q' x x' b hne hx hx' hb=>?_,hr.heap.lim⟩,hr.size,fun s e he=>?_,?_,fun o ho=>.inl (hr.dA o ho)⟩⟩;funext k;have:cx.A k↔k<n:=by rw[hr.hA]
 exact propext ⟨fun h=>by
  rcases h with h|h
  have:=this.1 h;show k<n+1;omega;show k<n+1;omega,fun h=>by
  have h':k<n+1:=h;rcases Nat.lt_or_ge k n with h1|h1
  exact .inl (this.2 h1);exact .inr (by omega)⟩
 rcases split q x hx with⟨rfl,rfl⟩|⟨hq,hx'⟩
 exact⟨.inr rfl,by simp,[],by rw[hlo];exact World.ownsRow_nil w 0 T sz,by simp[Vs],by simp⟩;obtain⟨k1,k2⟩:=hr.heap.ok q x hx';exact⟨.inl k1,ObjOk.mono hle hext k1 (fun _ _ _=>rfl) rfl k2⟩;rcases split q x hx with⟨rfl,rfl⟩|⟨hq,hx'⟩
 rw[cY rfl,hlo]at hb;cases hb
 rw[old q x hx']at hb;exact hr.heap.own q x b hx' hb;rcases split q x hx with⟨rfl,rfl⟩|⟨hq,hx1⟩
 rw[cY rfl,hlo]at hb;cases hb
 rcases split q' x' hx' with⟨rfl,rfl⟩|⟨hq',hx1'⟩
 rw[cY rfl,hlo];simp[bk];rw[old q x hx1]at hb;rw[old q' x' hx1'];exact hr.heap.inj q q' x x' b hne hx1 hx1' hb;simp only[en,List.lookup_cons]at he;split at he;rename_i hh;simp at hh;cases he
 subst hh;refine⟨fun _=>?_,fun h=>by cases h⟩;have:=(hr.env s _ ht).1 rfl;simp only[V,VS]at this⊢;rw[this];exact⟨.inr rfl,hlo.symm,rfl⟩;exact(hr.env s e he).mono hle hext;rw[hr.df];exact List.map_congr_left (fun o ho=>by simp only[Ay];rw[(hle o (hr.dA o ho)).2])
end
end Go.Proofs.YtgkhfpfjokagfaaGreatDoor
namespace Go.Proofs.YtgkhfpfjokagfaaGreatDoor
section
variable{P:Program}{r:Option Nat}{N:Nat}{D:List Nat}{B:bG}{Ψ:Exit→Act→World→Prop}{todo:List Item}{S:St}
variable{E:List (Nat×bB)}{L:List (Nat×LO)}{n:Nat}
theorem vR(w:World)(b:Nat)(x:Obj)(h:b<w.heap.size):(w.putObj b x).heap[b]?=some x:=World.putObj_heap_same h
theorem Tr.put{md:Nat→Prop}{n0:Nat}{H:Hp}{cx:Cx}{w:World}(h:HOk md n0 cx H w){o:Nat}{x x':LO}(ho:H o=some x){b:Nat}(hb:bk (cx.loc o)=some b)(ob:Obj)
 (hx:Ext cx.pr w cx.pr (w.putObj b ob)→(w.putObj b ob).heap[b]?=some ob→ObjOk cx (w.putObj b ob) o x')(hbx:x.isBx=false:=by rfl)(hbx':x'.isBx=false:=by rfl):
 Tr cx w (hp [(o,x)]) cx (w.putObj b ob) (hp [(o,x')]) (·∈([]:List Nat)):=by
 have hlt:=(h.own o x b ho (.inl hb)).2.1;exact Tr.set h ho hb ⟨rfl,rfl,rfl⟩ (by simp[World.putObj]) (fun k hk=>World.putObj_heap_other hk) (fun hext=>hx hext (vR w b ob hlt)) hbx hbx'
theorem fK{fn:Func}{m k od:Nat}{out:LV}{Hi Ho:List (Nat×LO)}(hod:hp L od=some (.raw (.deferred (some [])))){e:Exit}
 (h:∀cx a w,Rel B N D (st E ((od,.raw (.deferred none))::L) n) cx a w→FnPost P fn B m out Hi Ho k e a w):
 ∀cx a w,Rel B N (od::D) (st E L n) cx a w→FnPost P fn B m out Hi Ho k e a w:=by
 intro cx a w hr;obtain⟨hA,b,hb,hg⟩:=hr.heap.ok od _ hod;have t:=Tr.put (x':= .raw (.deferred none)) hr.heap hod (show bk (cx.loc od)=some b by rw[hb];rfl) (.deferred none) (fun _ hh=>⟨b,hb,hh⟩);have hr':=Rel.step (c:=⟨[],none,(true,.v undef),[],[(od,.raw (.deferred (some [])))],[(od,.raw (.deferred none))],[]⟩) hr
  ⟨by simp,by simp,fun o x hx=>by
   simp only[hp,List.lookup_cons]at hx;split at hx;rename_i hh;simp at hh;cases hx;subst hh;exact hod
   simp at hx,by simp⟩ (by simp) t (by simp) (v:=undef) ⟨fun _=>aZ,fun h=>by cases h⟩
 have hS:Ct.app ⟨[],none,(true,.v undef),[],[(od,.raw (.deferred (some [])))],[(od,.raw (.deferred none))],[]⟩ (st E L n)=st E ((od,.raw (.deferred none))::L) n:=by
  simp only[Ct.app,cX,fL,oY];congr 1;funext q;simp
 rw[hS]at hr';have hr2:Rel B N D (st E ((od,.raw (.deferred none))::L) n) cx {a with defers:=D.map (Ay cx)} (w.putObj b (.deferred none)):=
  ⟨hr'.grow,hr'.le,hr'.hA,hr'.heap,hr'.size,hr'.env,rfl,fun o ho=>hr'.dA o (List.mem_cons_of_mem _ ho)⟩
 obtain⟨h1,h2⟩:=h cx _ _ hr2;refine⟨h1,?_⟩;have hd:a.defers={target:= .collected b,args:=#[]}::D.map (Ay cx):=by
  rw[hr.df];simp[Ay,hb,bk]
 rw[hd];exact⟨by simp,.inl ⟨b,_,rfl,run_takeDeferred hg,h2⟩⟩
theorem nW(M:Nat):sg (List.range M) M=id:=by
 funext o;by_cases h:o<M;exact uJ h;simp[sg,List.getD_eq_getElem?_getD,List.getElem?_eq_none (show(List.range M).length≤o by simp;omega)];omega
theorem LO.mapI_id:∀x:LO,x.mapI id=x
 |.box T cs=>by simp[LO.mapI,dv]
 |.row T sz xs=>by simp only[LO.mapI];congr 1;exact(List.map_congr_left (fun a _=>dv a)).trans (List.map_id _)
 |.rs T sz ys=>rfl
 |.bx T cs k Te sz ys=>by simp[LO.mapI,dv]
 |.raw x=>rfl
 |.loop fn N E ps a b st pd=>by
  simp only[LO.mapI,sR];congr 1;exact(List.map_congr_left (fun p _=>by rw[Go.Proofs.YtgkhfpfjokagfaaGreatDoor.mapI_id];rfl)).trans (List.map_id _)
theorem LC.useId{f M k:Nat}{lvs:List LV}{Hi Ho:List (Nat×LO)}{out:LV}(h:LC P f M lvs Hi out Ho k){md:Nat→Prop}{n0:Nat}{cx:Cx}{H:Hp}{w:World}{vs:List Value}(hok:HOk md n0 cx H w)(ham:Amb cx.pr w)
 (hA:∀o,cx.A o↔o<M)(hHi:∀p∈Hi,H p.1=some p.2)(hv:Vs cx w lvs vs):
 Calls P f vs.toArray w fun e w'=>∃v cx',e= .returned v∧Tr cx w (hp Hi) cx' w' (hp Ho) (·∈List.range' M k)∧V cx' w' out v:=by
 have h':LC P f (List.range M).length lvs Hi out Ho k:=by rw[List.length_range];exact h
 have hid:∀l:List (Nat×LO),(l.map fun p=>(sg (List.range M) M p.1,p.2.mapI (sg (List.range M) M)))=l:=by
  intro l;rw[nW];exact(List.map_congr_left (fun p _=>by rw[LO.mapI_id];rfl)).trans (List.map_id _)
 have hvv:aV (sg (List.range M) M) lvs=lvs:=by rw[nW,dv]
 have:=h'.use (n:=M) List.nodup_range hok ham (fun o ho=>(hA o).2 (by simpa using ho)) (fun p hp'=>by rw[nW,LO.mapI_id];exact hHi p hp') (fun i hi=>by
  rw[hA];simp only[List.mem_range'_1]at hi;omega) (by rw[hvv];exact hv)
 rw[hid,hid,nW,mapI_id]at this;exact this
end
def YC(P:Program)(vs:List Value)(w:World)(R:Ending→World→Prop):Prop:=
 ∃l args f tm assign body,vs=Value.func (.yield l) #[] #[]::args∧(Instr.yield l args.toArray).run P w= .ok (.round l f tm assign body) w∧
  ∀r,RoundIn (FW r) 0 P l f tm assign body w R
theorem YC.mono{P:Program}(vs:List Value)(w:World)(R R':Ending→World→Prop)(h:YC P vs w R)(hr:∀e w',R e w'→R' e w'):YC P vs w R':=by
 obtain⟨l,args,f,tm,as0,b,h1,h2,h3⟩:=h;exact⟨l,args,f,tm,as0,b,h1,h2,fun r=>(h3 r).mono hr⟩
def Yld(P:Program)(y:Nat)(lvs:List LV)(L:List (Nat×LO))(b:Bool)(L1:List (Nat×LO)):Prop:=
 L1.map (·.1)=L.map (·.1)∧LCG (YC P) L.length (.yld y::lvs) L (.b b) L1 0
inductive YRun (P:Program) (y:Nat) (C:List (Nat×LO)→Prop):List (List LV)→List (Nat×LO)→List (Nat×LO)→Prop
 |nil {L:List (Nat×LO)} (h:C L):YRun P y C [] L L
 |stop {x:List LV} {xs:List (List LV)} {L L1:List (Nat×LO)} (h:C L) (hy:Yld P y x L false L1) (h1:C L1):YRun P y C (x::xs) L L1
 |go {x:List LV} {xs:List (List LV)} {L L1 L2:List (Nat×LO)} (h:C L) (hy:Yld P y x L true L1) (h1:YRun P y C xs L1 L2):YRun P y C (x::xs) L L2
section
variable{P:Program}{N:Nat}{D:List Nat}{B:bG}{Ψ:Exit→Act→World→Prop}{todo:List Item}{S:St}
variable{E:List (Nat×bB)}{L:List (Nat×LO)}{n:Nat}
def wR(P:Program)(N:Nat)(D:List Nat)(B:bG)(Ψ:Exit→Act→World→Prop)(todo:List Item)(S:St):Option Code→Prop
 |none=>LGo P none N D B Ψ todo S
 |some .ret=>∀cx a w,Rel B N D S cx a w→Ψ .ret a w
 |some (.exit id)=>∃k',exitTo id todo=some k'∧LGo P none N D B Ψ k' S
 |_=>False
theorem LGo.rangeFunc{f:Operand}{ps:Array Tmp}{assign body:Code}{gf:Nat}{cap:List LV}{L':FuncId→List (Nat×LO)}{s':LoopState}{pd:Option Code}
 (hf:aP (en E) f=some (true,.fn (.func gf) [] cap))(hL:L.map (·.1)=List.range n)(hs':s'≠ .busy)
 (hit:∀fn,LC P gf (n+2) (.yld (n+1)::cap) (L++[(n,.raw (.deferred (some []))),(n+1,.loop fn N E ps assign body .ready none)]) (.tup []) (L' fn) 0)
 (hend:∀fn,hp (L' fn) (n+1)=some (.loop fn N E ps assign body s' pd))
 (h:∀fn,wR P N (n::D) B Ψ todo (st E ((n+1,.loop fn N E ps assign body .exhausted pd)::L' fn) (n+2)) pd):
 LGo P none N D B Ψ (.code (.rangeFunc f ps assign body)::todo) (st E L n):=by
 refine⟨fun cx a w hr b k cs hb=>?_⟩
 let Q:Exit→Act→World→Prop:=fun e a' w'=>∃fn cx',Rel B N (n::D) (st E ((n+1,.loop fn N E ps assign body .exhausted pd)::L' fn) (n+2)) cx' a' w'∧
  (match pd with|none=>e= .normal|some .ret=>e= .ret|some (.exit id)=>e= .exit id|_=>False)
 have key:(Code.rangeFunc f ps assign body).wpIn (FW none) 0 P Q a w:=by
  refine wpIn_rangeFunc fun fn _=>?_;have hfv:=jg hr hf rfl;simp only[V,Vs]at hfv;obtain⟨us,vs,e1,rfl,e3⟩:=hfv;have hnA:¬cx.A n:=by rw[hr.hA];show¬n<n;omega
  obtain⟨c1,t1,hA1,hl1,hp1⟩:=Tr.new (w0:=w) hr.heap (ob:= .deferred (some [])) (o:=n) hnA (lv:= .map (some w.heap.size)) (x:= .raw (.deferred (some []))) ⟨rfl,rfl,rfl,rfl⟩ rfl
   (fun cx' h1 _ _ _=>⟨w.heap.size,h1,heap_alloc_new w _⟩)
  have r1:=Rel.step (c:=⟨[],none,(true,.v undef),[],[],[(n,.raw (.deferred (some [])))],[n]⟩) hr ⟨by simp,by simp,by simp,by simp⟩ (by simp) t1 (by simp) (v:=undef) ⟨fun _=>aZ,fun h=>by cases h⟩;have hS1:Ct.app ⟨[],none,(true,.v undef),[],[],[(n,.raw (.deferred (some [])))],[n]⟩ (st E L n)=st E ((n,.raw (.deferred (some [])))::L) (n+1):=by
   simp only[Ct.app,cX,fL,yf];congr 1;funext q;simp only[List.mem_singleton,eq_iff_iff];omega
  rw[hS1]at r1;have hnA1:¬c1.A (n+1):=by rw[r1.hA];show¬n+1<n+1;omega
  obtain⟨c2,t2,hA2,hl2,hp2⟩:=Tr.new (w0:=w.alloc (.deferred (some []))) r1.heap (ob:= .loop {state:= .ready,pending:=none,fn:=fn,tmps:=a.tmps,params:=ps,assign:=assign,body:=body,defers:=w.heap.size}) (o:=n+1) hnA1
   (lv:= .map (some (w.alloc (.deferred (some []))).heap.size)) (x:= .loop fn N E ps assign body .ready none) ⟨rfl,rfl,rfl,rfl⟩ rfl
   (fun cx' h1 h2 h3 h4=>⟨_,a.tmps,w.heap.size,by rw[h1];rfl,heap_alloc_new _ _,hr.size,fun t e he=>by
    refine(r1.env t e he).mono h3 (fun bb off hbo=>?_);rw[h4];refine⟨hbo,?_⟩;have:=r1.heap.lim bb (by omega);simp only[World.cell?,heap_alloc_old _ _ this]⟩)
  have r2:=Rel.step (c:=⟨[],none,(true,.v undef),[],[],[(n+1,.loop fn N E ps assign body .ready none)],[n+1]⟩) r1 ⟨by simp,by simp,by simp,by simp⟩ (by simp) t2 (by simp) (v:=undef) ⟨fun _=>aZ,fun h=>by cases h⟩;have hS2:Ct.app ⟨[],none,(true,.v undef),[],[],[(n+1,.loop fn N E ps assign body .ready none)],[n+1]⟩ (st E ((n,.raw (.deferred (some [])))::L) (n+1))=st E ((n+1,.loop fn N E ps assign body .ready none)::(n,.raw (.deferred (some [])))::L) (n+2):=by
   simp only[Ct.app,cX,fL,yf];congr 1;funext q;simp only[List.mem_singleton,eq_iff_iff];omega
  rw[hS2]at r2;have hsz2:(w.alloc (.deferred (some []))).heap.size=w.heap.size+1:=by simp
  generalize hw2:(w.alloc (.deferred (some []))).alloc (.loop {state:= .ready,pending:=none,fn:=fn,tmps:=a.tmps,params:=ps,assign:=assign,body:=body,defers:=w.heap.size})=w2 at r2 t2;have hall:=hit fn;have hle2:CxLe cx c2:=t1.le.trans t2.le;have hkeyL:∀p∈L,p.1<n:=fun p hp'=>by
   have:p.1∈L.map (·.1):=List.mem_map.2 ⟨p,hp',rfl⟩;rw[hL]at this;simpa using this
  have hLL:∀p∈L++[(n,LO.raw (.deferred (some []))),(n+1,LO.loop fn N E ps assign body .ready none)],hp ((n+1,.loop fn N E ps assign body .ready none)::(n,.raw (.deferred (some [])))::L) p.1=some p.2:=by
   intro p hp';rcases List.mem_append.1 hp' with hp'|hp'
   have hlt:=hkeyL p hp';have e1:(p.1==n+1)=false:=by simp;omega
   have e2:(p.1==n)=false:=by simp;omega
   simp only[hp,List.lookup_cons,e1,e2];exact bV (by rw[hL];exact List.nodup_range) hp';simp only[List.mem_cons,List.not_mem_nil,or_false]at hp';rcases hp' with rfl|rfl
   have e1:(n==n+1)=false:=by simp
   simp[hp,List.lookup_cons,e1];simp[hp,List.lookup_cons]
  have hext2:Ext cx.pr w c2.pr w2:=t1.grow.ext.trans t2.grow.ext;have hargs:Vs c2 w2 (.yld (n+1)::cap) ([Value.func (.yield (w.heap.size+1)) #[] #[]]++vs):=by
   simp only[Vs,List.cons_append,List.nil_append];refine⟨_,_,rfl,?_,Vs.mono hle2 hext2 _ _ e3⟩;simp only[V];exact⟨hA2,w.heap.size+1,by rw[hl2,hsz2];rfl,rfl⟩
  have hcall:=hall.useId r2.heap (Amb.grow B.amb r2.grow) (fun o=>by rw[r2.hA]) hLL hargs;refine⟨w.heap.size+1,[{target:= .collected w.heap.size,args:=#[]}],w2,{target:= .fn (.func gf) vs.toArray,args:=#[Value.func (.yield (w.heap.size+1)) #[] #[]]},w2,gf,
   ([Value.func (.yield (w.heap.size+1)) #[] #[]]++vs).toArray,w2,?_,?_,fun _ _=>trivial,?_,fun h=>by simp[FW,Fence.wide]at h,?_⟩
  rw[←hw2];exact run_enterLoop_outer fn a.tmps ps assign body;simp only[rangeCall,resolve,e1,Deferred.ofValue];simp[Act.eval];have:=hall.entr ([Value.func (.yield (w.heap.size+1)) #[] #[]]++vs).toArray w2;simp only[invoke];have he:(#[Value.func (.yield (w.heap.size+1)) #[] #[]]:Array Value)++vs.toArray=([Value.func (.yield (w.heap.size+1)) #[] #[]]++vs).toArray:=by apply Array.ext';simp
  rw[he];exact this;refine gF (Calls.mono hcall ?_);rintro e w3 ⟨v,c3,rfl,t3,_⟩;have r3:=Rel.step (c:=⟨[],none,(true,.v undef),[],L++[(n,.raw (.deferred (some []))),(n+1,.loop fn N E ps assign body .ready none)],L' fn,[]⟩) r2
   ⟨by simp,by simp,fun o x hx=>hLL (o,x) (dB hx),by simp⟩ (by simp) (by simpa using t3) (fun p hp'=>by
    rcases hall.hos p hp' with h1|h1
    exact .inl h1;omega) (v:=undef) ⟨fun _=>aZ,fun h=>by cases h⟩
  have hS3:Ct.app ⟨[],none,(true,.v undef),[],L++[(n,.raw (.deferred (some []))),(n+1,.loop fn N E ps assign body .ready none)],L' fn,[]⟩ (st E ((n+1,.loop fn N E ps assign body .ready none)::(n,.raw (.deferred (some [])))::L) (n+2))=st E (L' fn) (n+2):=by
   simp only[Ct.app,cX,fL];congr 1;funext q;simp only[Hp.upd];cases hq:hp (L' fn) q with
   |some x=>rfl
   |none=>
    simp only[];cases hq2:hp (L++[(n,LO.raw (.deferred (some []))),(n+1,LO.loop fn N E ps assign body .ready none)]) q with
    |some x=>rfl
    |none=>
     simp only[hp,dZ]at hq2;cases hq3:L.lookup q with
     |some x=>rw[hq3]at hq2;cases hq2
     |none=>
      rw[hq3]at hq2;simp only[List.lookup_cons,List.lookup_nil]at hq2;cases h1:(q==n)with
      |true=>rw[h1]at hq2;cases hq2
      |false=>
       rw[h1]at hq2;cases h2:(q==n+1)with
       |true=>rw[h2]at hq2;cases hq2
       |false=>simp[hp,List.lookup_cons,h1,h2,hq3]
   funext q;simp
  rw[hS3]at r3;obtain⟨hA3,l3,T3,df3,hb3,hg3,hT3,hE3⟩:=r3.heap.ok (n+1) _ (hend fn);have hl3:l3=w.heap.size+1:=by
   have:=(t3.le (n+1) hA2).2;rw[this,hl2,hsz2]at hb3;simpa[bk]using hb3.symm
  have t4:=Tr.put (x':= .loop fn N E ps assign body .exhausted pd) r3.heap (hend fn) hb3 (.loop {state:= .exhausted,pending:=pd,fn:=fn,tmps:=T3,params:=ps,assign:=assign,body:=body,defers:=df3})
   (fun hext hh=>⟨l3,T3,df3,hb3,hh,hT3,fun t e he=>(hE3 t e he).mono (CxLe.refl _) hext⟩)
  have r4:=Rel.step (c:=⟨[],none,(true,.v undef),[],[(n+1,.loop fn N E ps assign body s' pd)],[(n+1,.loop fn N E ps assign body .exhausted pd)],[]⟩) r3
   ⟨by simp,by simp,fun o x hx=>by
    simp only[hp,List.lookup_cons]at hx;split at hx;rename_i hh;simp at hh;cases hx;subst hh;exact hend fn
    simp at hx,by simp⟩ (by simp) t4 (by simp) (v:=undef) ⟨fun _=>aZ,fun h=>by cases h⟩
  have hS4:Ct.app ⟨[],none,(true,.v undef),[],[(n+1,.loop fn N E ps assign body s' pd)],[(n+1,.loop fn N E ps assign body .exhausted pd)],[]⟩ (st E (L' fn) (n+2))=st E ((n+1,.loop fn N E ps assign body .exhausted pd)::L' fn) (n+2):=by
   simp only[Ct.app,cX,fL,oY];congr 1;funext q;simp
  rw[hS4]at r4;have hnb:bk (c3.loc n)=some w.heap.size:=by
   rw[((t2.le.trans t3.le) n hA1).2,hl1];rfl
  have r5:Rel B N (n::D) (st E ((n+1,.loop fn N E ps assign body .exhausted pd)::L' fn) (n+2)) c3 {a with defers:=[{target:= .collected w.heap.size,args:=#[]}]++a.defers} (w3.putObj l3 (.loop {state:= .exhausted,pending:=pd,fn:=fn,tmps:=T3,params:=ps,assign:=assign,body:=body,defers:=df3})):=by
   refine⟨r4.grow,r4.le,r4.hA,r4.heap,r4.size,r4.env,?_,fun o ho=>?_⟩;have hda:a.defers=D.map (Ay c3):=r4.df;show[({target:= .collected w.heap.size,args:=#[]}:Deferred)]++a.defers=_;rw[hda];simp[Ay,hnb];rcases List.mem_cons.1 ho with rfl|ho
   exact((t2.le.trans t3.le) _ hA1).1;exact r4.dA o ho
  have hend':=run_endLoop (P:=P) (w:=w3) (l:=l3) hg3 hs';rw[hl3]at hend';refine⟨pd,_,hend',?_⟩;rw[←hl3];cases pd with
  |none=>exact⟨fn,c3,r5,rfl⟩
  |some c=>
   have hh:=h fn;cases c with
   |ret=>exact wpIn_ret ⟨fn,c3,r5,rfl⟩
   |exit id=>exact wpIn_exit ⟨fn,c3,r5,rfl⟩
   |_=>exact absurd hh (by simp[wR])
 obtain⟨e,a',w',⟨fn,cx',hr',he⟩,harr⟩:=key b (todo++k) cs hb trivial (by intro d hd;simp[FW,Fence.wide]at hd);have hh:=h fn;cases pd with
 |none=>
  simp only at he;subst he;obtain⟨e2,a2,w2,hq2,harr2⟩:=LGo.go hh cx' a' w' hr' b k cs hb;exact⟨e2,a2,w2,hq2,.of_steps harr harr2⟩
 |some c=>
  cases c with
  |ret=>
   simp only at he;subst he;exact⟨.ret,a',w',hh cx' a' w' hr',harr⟩
  |exit id=>
   simp only at he;subst he;obtain⟨k',hk',hgo⟩:=hh;obtain⟨e2,a2,w2,hq2,harr2⟩:=LGo.go hgo cx' a' w' hr' b k cs hb;exact⟨e2,a2,w2,hq2,.of_steps (harr.1 _ (fC hk')) harr2⟩
  |_=>exact absurd hh (by simp[wR])
end
end Go.Proofs.YtgkhfpfjokagfaaGreatDoor
namespace Go.Proofs.YtgkhfpfjokagfaaGreatDoor
section
variable{P:Program}{N:Nat}{D:List Nat}{B:bG}{E:List (Nat×bB)}{L:List (Nat×LO)}{n:Nat}
theorem Rel.put{o b:Nat}{x x':LO}{ob:Obj}{cx:Cx}{a:Act}{w:World}(hr:Rel B N D (st E L n) cx a w)(ho:hp L o=some x)(hb:bk (cx.loc o)=some b)
 (hx:Ext cx.pr w cx.pr (w.putObj b ob)→(w.putObj b ob).heap[b]?=some ob→ObjOk cx (w.putObj b ob) o x')(hbx:x.isBx=false:=by rfl)(hbx':x'.isBx=false:=by rfl):
 Rel B N D (st E ((o,x')::L) n) cx a (w.putObj b ob):=by
 have t:=Tr.put hr.heap ho hb ob hx hbx hbx';have h:=Rel.step (c:=⟨[],none,(true,.v undef),[],[(o,x)],[(o,x')],[]⟩) hr
  ⟨by simp,by simp,fun q y hq=>by
   simp only[hp,List.lookup_cons]at hq;split at hq;rename_i hh;simp at hh;cases hq;subst hh;exact ho
   simp at hq,by simp⟩ (by simp) t (by simp) (v:=undef) ⟨fun _=>aZ,fun h=>by cases h⟩
 have hS:Ct.app ⟨[],none,(true,.v undef),[],[(o,x)],[(o,x')],[]⟩ (st E L n)=st E ((o,x')::L) n:=by
  simp only[Ct.app,cX,fL,oY];congr 1;funext q;simp
 rw[hS]at h;exact h
def Ax(ps:List Tmp)(lvs:List LV)(E:List (Nat×bB)):List (Nat×bB):=(ps.zip (lvs.map fun l=>(true,l))).reverse++E
theorem Bj{cx:Cx}{w:World}:∀(ps:List Tmp) (lvs:List LV) (vs:List Value) (E:List (Nat×bB)) (T:Array Value),(∀p∈ps,p<T.size)→Vs cx w lvs vs→
 (∀t e,E.lookup t=some e→EntOk cx w e (T.getD t undef))→
 ∀t e,(Ax ps lvs E).lookup t=some e→EntOk cx w e (((ps.zip vs).foldl (fun T (p:Tmp×Value)=>T.setIfInBounds p.1 p.2) T).getD t undef)
 |[],lvs,vs,E,T,hps,hv,hE,t,e,h=>by simpa[Ax]using hE t e (by simpa[Ax]using h)
 |p::ps,[],vs,E,T,hps,hv,hE,t,e,h=>by
  simp only[Vs]at hv;subst hv;simpa using hE t e (by simpa[Ax]using h)
 |p::ps,l::lvs,vs,E,T,hps,hv,hE,t,e,h=>by
  simp only[Vs]at hv;obtain⟨v,vs',rfl,hv1,hv2⟩:=hv;have h':(Ax ps lvs ((p,(true,l))::E)).lookup t=some e:=by
   have:Ax (p::ps) (l::lvs) E=Ax ps lvs ((p,(true,l))::E):=by simp[Ax]
   rw[←this];exact h
  simp only[List.zip_cons_cons,List.foldl_cons];refine Bj ps lvs vs' _ (T.setIfInBounds p v) (fun q hq=>by simpa using hps q (List.mem_cons_of_mem _ hq)) hv2 (fun t' e' ht=>?_) t e h';simp only[List.lookup_cons]at ht;split at ht;rename_i hh;simp at hh;cases ht;subst hh
  have hlt:=hps t' (by simp);refine⟨fun _=>?_,fun h=>by cases h⟩;simp[Array.getD_eq_getD_getElem?,hlt,hv1];rename_i hh;have hne:¬p=t':=fun h=>by simp[h]at hh
  have:=hE t' e' ht;simpa[Array.getD_eq_getD_getElem?,Array.getElem?_setIfInBounds_ne hne]using this
def RoundEnd(B:bG)(N:Nat)(L1:List (Nat×LO))(m y fn:Nat)(E:List (Nat×bB))(ps:Array Tmp)(assign body:Code)(b:Bool):Exit→Act→World→Prop:=fun e a w=>
 ∃cx Le E2,Rel B N [] (st E2 Le m) cx a w∧hp Le y=some (.loop fn N E ps assign body .busy none)∧(∀o x,hp L1 o=some x→o≠y→hp Le o=some x)∧
  (match e with
   |.normal=>b=true∧hp L1 y=some (.loop fn N E ps assign body .ready none)
   |.ret=>b=false∧hp L1 y=some (.loop fn N E ps assign body .done (some .ret))
   |.exit id=>b=false∧hp L1 y=some (.loop fn N E ps assign body .done (some (.exit id)))
   |_=>False)
def nC(B:bG)(N:Nat)(S:St):Exit→Act→World→Prop:=fun e a w=>e= .normal∧∃cx,Rel B N [] S cx a w
theorem xO(r:Option Nat)(l:Nat):(FW r).inRound l=FW (some l):=rfl
theorem Yld.of_go{y fn:Nat}{lvs:List LV}{L1:List (Nat×LO)}{b:Bool}{E1:List (Nat×bB)}{La:List (Nat×LO)}{m1:Nat}{ps:Array Tmp}{assign body:Code}
 (hL:L.map (·.1)=List.range L.length)(hlt:∀p∈L,p.2.lt L.length=true)(hargs:an L.length lvs=true)(hy:hp L y=some (.loop fn N E ps assign body .ready none))(hya:hp La y=some (.loop fn N E ps assign body .ready none))
 (hps:ps.size=lvs.length)(hpN:∀p∈ps.toList,p<N)(hos:L1.map (·.1)=L.map (·.1))
 (hA:∀(l:Nat) (B:bG),(∀o,B.cx.A o↔o<L.length)→B.md=cf B.cx (hp L)→LGo P (some l) N [] B (nC B N (st E1 La m1)) [.code assign] (st (Ax ps.toList lvs E) L L.length))
 (hB:∀(l:Nat) (B:bG),(∀o,B.cx.A o↔o<L.length)→B.md=cf B.cx (hp L)→
  LGo P (some l) N [] B (RoundEnd B N L1 L.length y fn E ps assign body b) [.code body] (st E1 ((y,.loop fn N E ps assign body .busy none)::La) m1)):
 Yld P y lvs L b L1:=by
 have hyL:y<L.length:=by
  have:y∈L.map (·.1):=List.mem_map.2 ⟨_,dB hy,rfl⟩;rw[hL]at this;simpa using this
 refine⟨hos,by simp[an,LV.lt,hargs,hyL],hL,hlt,fun p hp'=>.inl (by rw[←hos];exact List.mem_map.2 ⟨p,hp',rfl⟩),fun cx w vs hcA hh ham hv=>?_⟩;simp only[Vs]at hv;obtain⟨fv,args,rfl,hfv,hva⟩:=hv;simp only[V]at hfv;obtain⟨hAy,l,hbl,rfl⟩:=hfv;obtain⟨_,l',T,df,hbl',hg,hT,hE⟩:=hh.ok y _ hy;have hll:l'=l:=by rw[hbl]at hbl';cases hbl';rfl
 subst hll;have hal:args.length=lvs.length:=hva.length;have hyd:=run_yield (P:=P) (args:=args.toArray) hg (by simp[hps,hal]);refine⟨l',args,_,_,_,_,rfl,hyd,fun r=>roundIn_of_wpIn trivial ?_⟩;rw[xO]
 let B:bG:=⟨cx,w,cf cx (hp L),ham,fun b ⟨o,x,hx,hb⟩=>(hh.own o x b hx hb).1⟩
 have hfold:(ps.zip args.toArray).foldl (fun tmps (x:Tmp×Value)=>tmps.setIfInBounds x.1 x.2) T=(ps.toList.zip args).foldl (fun T (p:Tmp×Value)=>T.setIfInBounds p.1 p.2) T:=by
  rw[←Array.foldl_toList,Array.toList_zip]
 have hsz:∀(q:List (Tmp×Value)) (T:Array Value),(q.foldl (fun T (p:Tmp×Value)=>T.setIfInBounds p.1 p.2) T).size=T.size:=by
  intro q;induction q with
  |nil=>intro T;rfl
  |cons p q ih=>intro T;simp only[List.foldl_cons];rw[ih];simp
 have hrel:Rel B N [] (st (Ax ps.toList lvs E) L L.length) cx {tmps:=(ps.toList.zip args).foldl (fun T (p:Tmp×Value)=>T.setIfInBounds p.1 p.2) T,defers:=[]} w:=by
  refine⟨Grow.refl _ _ _,CxLe.refl _,funext fun o=>propext (hcA o),⟨hh.ok,fun o x b hx hb=>?_,hh.inj,hh.lim⟩,?_,?_,rfl,by simp⟩;obtain⟨h1,h2,_⟩:=hh.own o x b hx hb;exact⟨h1,h2,.inr ⟨o,x,hx,hb⟩⟩;show Array.size _=N;rw[hsz];exact hT;exact Bj ps.toList lvs args E T (fun p hp'=>by rw[hT];exact hpN p hp') hva hE
 intro fb k cs hro _ _;obtain⟨e,a1,w1,⟨rfl,cx1,hr1⟩,harr⟩:=(hA l' B hcA rfl).go cx _ w hrel fb k cs hro;have hfold':((ps.zip args.toArray).foldl (fun tmps x=>match x with|(t,a)=>tmps.setIfInBounds t a) T)=(ps.toList.zip args).foldl (fun T (p:Tmp×Value)=>T.setIfInBounds p.1 p.2) T:=hfold;refine⟨.normal,a1,w1,?_,by rw[hfold'];exact harr⟩;obtain⟨_,l1,T1,df1,hb1,hg1,hT1,hE1⟩:=hr1.heap.ok y _ hya;have hbl1:bk (cx1.loc y)=some l':=by rw[(hr1.le y hAy).2];exact hbl
 have hl1:l1=l':=by rw[hbl1]at hb1;cases hb1;rfl
 subst hl1;refine⟨_,run_beginRound hg1 rfl,?_⟩;have hr2:=hr1.put (x':= .loop fn N E ps assign body .busy none) hya hb1 (ob:= .loop {state:= .busy,pending:=none,fn:=fn,tmps:=T1,params:=ps,assign:=assign,body:=body,defers:=df1})
  (fun hext hh'=>⟨l1,T1,df1,hb1,hh',hT1,fun t e he=>(hE1 t e he).mono (CxLe.refl _) hext⟩)
 intro fb2 k2 cs2 hro2 _ _;obtain⟨e2,a2,w2,⟨cx2,Le,E2,hr3,hey,heL,hend⟩,harr2⟩:=(hB l1 B hcA rfl).go cx1 a1 _ hr2 fb2 k2 cs2 hro2;refine⟨e2,a2,w2,?_,harr2⟩;obtain⟨_,l2,T2,df2,hb2,hg2,hT2,hE2⟩:=hr3.heap.ok y _ hey;have hbl2:bk (cx2.loc y)=some l1:=by rw[(hr3.le y hAy).2];exact hbl
 have hl2:l2=l1:=by rw[hbl2]at hb2;cases hb2;rfl
 subst hl2;have fin:∀(jump:Option Code),b=jump.isNone→hp L1 y=some (.loop fn N E ps assign body (if jump.isNone then .ready else .done) jump)→
  ∃v w4,(Instr.endRound l2 jump).run P w2= .ok v w4∧∃v' cx',Ending.returned v= .returned v'∧Tr cx w (hp L) cx' w4 (hp L1) (fun o=>L.length≤o∧o<L.length+0)∧V cx' w4 (.b b) v':=by
  intro jump hbj hyj;have hr4:=hr3.put (x':= .loop fn N E ps assign body (if jump.isNone then .ready else .done) jump) hey hb2 (ob:= .loop {state:=if jump.isNone then .ready else .done,pending:=jump,fn:=fn,tmps:=T2,params:=ps,assign:=assign,body:=body,defers:=df2})
   (fun hext hh'=>⟨l2,T2,df2,hb2,hh',hT2,fun t e he=>(hE2 t e he).mono (CxLe.refl _) hext⟩)
  have hsub:∀o x,hp L1 o=some x→hp ((y,.loop fn N E ps assign body (if jump.isNone then .ready else .done) jump)::Le) o=some x:=by
   intro o x hx;simp only[hp,List.lookup_cons];by_cases hoy:o=y;subst hoy;simp only[beq_self_eq_true];exact hyj.symm.trans hx;have:(o==y)=false:=by simpa using hoy
   rw[this];exact heL o x hx hoy
  refine⟨_,_,run_endRound jump hg2,_,cx2,rfl,⟨hr4.le,fun o=>?_,hr4.grow,⟨fun o x hx=>hr4.heap.ok o x (hsub o x hx),fun o x b hx hb=>hr4.heap.own o x b (hsub o x hx) hb,fun o o' x x' b hne hx hx' hb=>hr4.heap.inj o o' x x' b hne (hsub o x hx) (hsub o' x' hx') hb,hr4.heap.lim⟩,fun o ho hn=>absurd hn (vk hL ((hcA o).1 ho))⟩,?_⟩;rw[hr4.hA,hcA];show o<L.length↔_;omega;subst hbj;exact aZ
 cases e2 with
 |normal=>exact fin none hend.1 hend.2
 |ret=>exact fin (some .ret) hend.1 hend.2
 |exit id=>exact fin (some (.exit id)) hend.1 hend.2
 |goto t=>exact hend.elim
 |panic c=>exact hend.elim
 |outgrown=>exact hend.elim
end
section
variable{P:Program}{r:Option Nat}{N:Nat}{D:List Nat}{B:bG}{all:Array Oper}{i:Nat}{ops:List Oper}{tr:List (Nat×Ct)}{E:List (Nat×bB)}{L:List (Nat×LO)}{n:Nat}{K:List (Nat×Ct)→St→Prop}
variable{d ty:Nat}{pos:String}{aft:Array Edge}
theorem OpC.yld{y:Nat}{lvs:List LV}{Lc Lc1:List (Nat×LO)}{b:Bool}(hc:Yld P y lvs Lc b Lc1){o:Oper}{c:Go.Call}{fo:Operand}(ho:o.op= .call c)(hcl:c.callee= .value fo):
 OpC P r o (.yld y::lvs) [] Lc (.b b) Lc1 []:=by
 obtain⟨hkeys,h⟩:=hc;refine⟨fun p hp'=>.inl (by rw[←hkeys];exact List.mem_map.2 ⟨p,hp',rfl⟩),fun md n0 cx H a w K Q hok ham hrd hHi hnew hv hK=>?_⟩;have hop:o.op.operands.toList=fo::c.args.toList:=by simp[ho,Op.operands,Go.Call.operands,hcl]
 rw[hop]at hv;have h':LCG (YC P) (List.range Lc.length).length (.yld y::lvs) Lc (.b b) Lc1 0:=by rw[List.length_range];exact h
 have hσ:∀l:List (Nat×LO),(l.map fun p=>(sg (List.range Lc.length) Lc.length p.1,p.2.mapI (sg (List.range Lc.length) Lc.length)))=l:=by
  intro l;rw[nW];exact(List.map_congr_left (fun p _=>by rw[LO.mapI_id];rfl)).trans (List.map_id _)
 have hH:∀p∈Lc,H p.1=some p.2:=fun p hp'=>hHi _ _ (bV (by rw[h.rng];exact List.nodup_range) hp');have hu:=h'.use (n:=Lc.length) YC.mono List.nodup_range hok ham (fun o ho=>by
  rw[←h.rng]at ho;obtain⟨p,hp',rfl⟩:=List.mem_map.1 ho;exact(hok.ok _ _ (hH p hp')).1) (fun p hp'=>by rw[nW,LO.mapI_id];exact hH p hp') (fun i hi=>by simp at hi) (by rw[nW,dv];exact hv)
 rw[hσ,hσ,nW,mapI_id]at hu;obtain⟨l,args,f,tm,as0,body,h1,h2,h3⟩:=hu;simp only[List.map_cons,List.cons.injEq]at h1;obtain⟨e1,e2⟩:=h1;have e3:Array.map a.eval c.args=args.toArray:=by apply Array.ext';simp[e2]
 have hrun:(execOp a.eval o).run P w= .ok (.round l f tm as0 body) w:=by
  unfold execOp;simp only[ho,resolve,hcl,e1,Deferred.ofValue,Sem.run_bind,Sem.run_pure,Result.andThen_ok,invoke];simpa[e3]using h2
 refine⟨fun _ _=>trivial,?_⟩;rw[Oper.semAt_eq _ _ _ (by rw[ho];simp),hrun,Oper.uponIn_round];refine⟨fun h=>by simp[FW,Fence.wide]at h,(h3 r).mono ?_⟩;rintro e w' ⟨v,cx',rfl,t,hvo⟩;exact hK cx' w' v (by simpa using t) hvo
theorem sH{y:Nat}{fo:Operand}{args:Array Operand}{ats:Array TypeId}{es:List bB}{lvs:List LV}{Lc Lc1:List (Nat×LO)}{b:Bool}(hc:Yld P y lvs Lc b Lc1)
 (ho:all[i]?=some ⟨some d,.call {callee:= .value fo,args:=args,argTypes:=ats},ty,pos,aft,none⟩:=by rfl)
 (hf:aP (en E) fo=some (true,.yld y):=by rfl)
 (hx:args.toList.map (aP (en E))=es.map some:=by rfl)(hes:es.map bD=lvs:=by rfl)(hL:∀k x,hp Lc k=some x→hp L k=some x)
 (h:Reg P r N D B all (i+1) ops ((i,⟨bA (fo::args.toList) ((true,.yld y)::es),some d,(true,.b b),[],Lc,Lc1,[]⟩)::tr) (st ((d,(true,.b b))::E) (Lc1++L) n) K):
 Reg P r N D B all i (⟨some d,.call {callee:= .value fo,args:=args,argTypes:=ats},ty,pos,aft,none⟩::ops) tr (st E L n) K:=by
 have hl:(Oper.mk (some d) (.call {callee:= .value fo,args:=args,argTypes:=ats}) ty pos aft none).op.operands.toList=fo::args.toList:=by simp[Op.operands,Go.Call.operands]
 have hop:Opnds (en E) (fo::args.toList) ((true,.yld y)::es):=⟨_,_,rfl,hf,bw hx⟩;refine Reg.cons (c:=⟨bA (fo::args.toList) ((true,.yld y)::es),some d,(true,.b b),[],Lc,Lc1,[]⟩) (fun hN=>?_) ⟨fun p hp'=>hop.need p hp',by simp,hL,by simp⟩ ?_;have:=ft (r:=r) (D:=D) (B:=B) (o:=⟨some d,.call {callee:= .value fo,args:=args,argTypes:=ats},ty,pos,aft,none⟩) (es:=(true,.yld y)::es) (E:=en E) (out:= .b b) ho hN.dst gN
  (fun _=>by have:=OpC.yld (r:=r) hc (o:=⟨some d,.call {callee:= .value fo,args:=args,argTypes:=ats},ty,pos,aft,none⟩) rfl rfl;rw[←hes]at this;exact this) (by rw[hl];exact hop) (.inl rfl)
 rw[hl]at this;simpa using this;have:(Ct.app ⟨bA (fo::args.toList) ((true,.yld y)::es),some d,(true,.b b),[],Lc,Lc1,[]⟩ (st E L n))=st ((d,(true,.b b))::E) (Lc1++L) n:=by
  simp only[Ct.app,cX,fL];congr 1;funext k;simp only[Hp.upd,hp,dZ];cases hk:Lc1.lookup k with
  |some x=>rfl
  |none=>
   simp only[];cases hk2:Lc.lookup k with
   |some x=>
    exfalso;have h1:k∈Lc1.map (·.1):=by rw[hc.1];exact List.mem_map.2 ⟨_,dB hk2,rfl⟩
    obtain⟨p,hp',rfl⟩:=List.mem_map.1 h1;have:=bV (l:=Lc1) (by rw[hc.1,hc.2.rng];exact List.nodup_range) (k:=p.1) (v:=p.2) hp';rw[this]at hk;cases hk
   |none=>rfl
  funext k;simp
 rw[this];exact h
end
end Go.Proofs.YtgkhfpfjokagfaaGreatDoor
namespace Go.Proofs.YtgkhfpfjokagfaaGreatDoor
section
variable{P:Program}{r:Option Nat}{N:Nat}{D:List Nat}{B:bG}{Ψ:Exit→Act→World→Prop}{todo:List Item}{S:St}
theorem LGo.split{x:Item}{α:Type}(S':α→St)(J:α→Prop)(hr:∀a,J a→LGo P r N D B Ψ todo (S' a))(h:(∀a,J a→LGo P r N D B Ψ todo (S' a))→LGo P r N D B Ψ (x::todo) S):LGo P r N D B Ψ (x::todo) S:=h hr
end
theorem qq{cx:Cx}{pr':Nat→Nat}{w:World}{v:Value}{T sz:Nat}{xs:List (List LV)}{ys:List (List SV)}{vs:List Value}(hsz:∀e∈xs,e.length=sz)(hown:w.ownsRow 0 T sz v xs.length vs)
 (hvs:Vs cx w xs.flatten vs)(hones:∀u∈vs,u.oneCell'=true)(hy:xs=ys.map (List.map LV.sv))(hext:Ext cx.pr w pr' w)(hpr:∀b,some b=bk v→ys.length*sz≤pr' b):VS pr' w (.sl sz ys) v:=by
 have hyl:xs.length=ys.length:=by rw[hy];simp
 simp only[VS];rcases hown.2 with⟨e1,e2⟩|⟨gb,cap,cur,e1,_,e2,e3,e4,e5,e6⟩
 left;refine⟨.inl e1,?_⟩;apply List.eq_nil_of_length_eq_zero;omega;right;have hbk:some gb=bk v:=by rw[e1];rfl
 refine⟨gb,0,cap,by rw[e1,hyl],by omega,e4,by have:=hpr gb hbk;omega,?_⟩;have hvl:vs.length=ys.length*sz:=by rw[hown.1,hyl]
 refine VSR.of_list e2 ys vs 0 (fun e he=>?_) hvl (fun j hj=>?_) hones (fun j c v hc hv=>?_);have:=hsz (e.map LV.sv) (by rw[hy];exact List.mem_map.2 ⟨e,he,rfl⟩);simpa using this;rw[Nat.zero_add,←e6,List.getElem?_take,if_pos (by rw[hyl,←hvl];exact hj)];simp;have hc':xs.flatten[j]?=some (.sv c):=by
  rw[hy,←List.map_flatten,List.getElem?_map,hc];rfl
 obtain⟨v',hv',hV⟩:=hvs.get hc';rw[hv]at hv';cases hv'
 simp only[V]at hV;exact VS.mono hext c v hV
theorem Tr.frz{cx cx':Cx}{w w':World}{o T sz:Nat}{xs:List (List LV)}{ys:List (List SV)}{v:Value}(t:Tr cx w (hp []) cx' w' (hp [(o,.row T sz xs)]) (·∈[o]))(hv:V cx' w' (.ref o) v)
 (hy:xs=ys.map (List.map LV.sv)):∃c2,Tr cx w (hp []) c2 w' (hp []) (·∈([]:List Nat))∧V c2 w' (.sv (.sl sz ys)) v:=by
 have hb:hp [(o,LO.row T sz xs)] o=some (.row T sz xs):=by simp
 obtain⟨hAo,hsz,vs,hown,hvs,hones⟩:=t.heap.ok o _ hb;simp only[V]at hv;obtain⟨_,rfl,_⟩:=hv
 let pr':Nat→Nat:=fun b=>if some b=bk (cx'.loc o)then ys.length*sz else cx'.pr b
 have hpr0:∀b,some b=bk (cx'.loc o)→cx'.pr b=0∧b<w'.heap.size∧w.heap.size≤b:=fun b hbb=>by
  obtain⟨h1,h2,h3⟩:=t.heap.own o _ b hb (.inl hbb.symm);refine⟨h1,h2,?_⟩;rcases h3 with h3|⟨q,x,hq,_⟩
  exact h3;simp at hq
 have hext:Ext cx'.pr w' pr' w':=fun b off hbo=>by
  refine⟨?_,rfl⟩;show off<(if some b=bk (cx'.loc o)then _ else _);split;rename_i hh;have:=(hpr0 b hh).1;omega;exact hbo
 refine⟨⟨pr',cx.A,cx.loc,cx.inn⟩,⟨fun q hq=>⟨hq,rfl⟩,fun q=>by simp,⟨t.grow.os,t.grow.tape,t.grow.output,t.grow.size,t.grow.same,fun b hbs hmd=>?_,t.grow.ext.trans hext⟩,⟨fun q x hx=>by simp at hx,fun q x b hx=>by simp at hx,fun q q' x x' b _ hx=>by simp at hx,fun b hbp=>?_⟩,fun _ _ _=>rfl⟩,?_⟩;show(if some b=bk (cx'.loc o)then _ else cx'.pr b)=_;split;rename_i hh;have:=(hpr0 b hh).2.2;omega;exact t.grow.prs b hbs hmd;change 0<(if some b=bk (cx'.loc o)then _ else cx'.pr b)at hbp;split at hbp;rename_i hh;exact(hpr0 b hh).2.1;exact t.heap.lim b hbp;simp only[V];exact qq hsz hown hvs hones hy hext (fun b hbb=>by show _≤(if some b=bk (cx'.loc o)then _ else _);rw[if_pos hbb];exact Nat.le_refl _)
theorem OpC.frz{P:Program}{r:Option Nat}{o:Oper}{lvs:List LV}{T sz:Nat}{xs:List (List LV)}{ys:List (List SV)}(h:OpC P r o lvs [] [] (.ref 0) [(0,.row T sz xs)] [0])(hl:an 0 lvs=true)
 (hy:xs=ys.map (List.map LV.sv)):OpC P r o lvs [] [] (.sv (.sl sz ys)) [] []:=by
 refine⟨by simp,fun md n0 cx H a w K Q hok ham hrd hHi hnew hv hK=>?_⟩
 let c1:Cx:=⟨cx.pr,fun o=>o<0,cx.loc,cx.inn⟩
 have hva1:Vs c1 w lvs (o.op.operands.toList.map a.eval):=Vs.unren (cx1:=c1) (cx2:=cx) (σ:=id) (m:=0) rfl (fun o ho=>absurd ho (Nat.not_lt_zero o)) _ _ hl (by rw[cw _ _ hl];exact hv);have hok1:HOk (fun _=>True) 0 c1 (hp []) w:=⟨fun o x hx=>by simp at hx,fun o x b hx=>by simp at hx,fun o o' x x' b _ hx=>by simp at hx,hok.lim⟩;refine h.2 (fun _=>True) 0 c1 (hp []) a w K Q hok1 ham (by simp) (by simp) (fun i _=>Nat.not_lt_zero i) hva1 (fun cx' w' v t hv'=>?_);obtain⟨c2,t2,hv2⟩:=t.frz hv' hy;refine hK ⟨c2.pr,cx.A,cx.loc,cx.inn⟩ w' v ⟨fun q hq=>⟨hq,rfl⟩,fun q=>by simp,t2.grow,⟨fun q x hx=>by simp at hx,fun q x b hx=>by simp at hx,fun q q' x x' b _ hx=>by simp at hx,t2.heap.lim⟩,fun _ _ _=>rfl⟩ ?_;simp only[V]at hv2⊢;exact hv2
section
variable{P:Program}{r:Option Nat}{N:Nat}{D:List Nat}{B:bG}{all:Array Oper}{K:List (Nat×Ct)→St→Prop}
variable{i:Nat}{ops:List Oper}{tr:List (Nat×Ct)}{E:List (Nat×bB)}{L:List (Nat×LO)}{n:Nat}{g:Bool}{gn:List (Nat×bB)}
variable{d ty:Nat}{pos:String}{aft:Array Edge}{gd:Option (Nat×Bool)}
theorem bE{t e sz:Nat}(hF:AppF P t e sz){len:Nat}{parts:Array (Nat×Operand)}{xs:List Operand}{es:List bB}{ls:List LV}{cs:List (List LV)}(ys:List (List SV))
 (ho:all[i]?=some ⟨some d,.buildSlice t len parts,ty,pos,aft,gd⟩:=by rfl)(hg:GuardOk (en E) all gd g gn:=by first|exact gN|exact gS rfl rfl)(hp':parts.toList=xs.zipIdx.map (fun p=>(p.2,p.1)):=by rfl)
 (hx:xs.map (aP (en E))=es.map some:=by rfl)(hes:g=true→es.map bD=ls:=by first|exact fun _=>rfl|(intro h;simp[bD,h];done)|(intro h;simp only[List.map_cons,List.map_nil,fG h];first|done|rfl))
 (hcs:CellsOfs ls cs:=by repeat (first|exact CellsOfs.nil|refine CellsOfs.cons (CellsOf.one rfl) ?_|refine CellsOfs.cons (CellsOf.agg rfl) ?_))(hsz:(cs.all fun c=>c.length==sz)=true:=by rfl)(hlen:cs.length=len:=by rfl)
 (hl:an 0 ls=true:=by rfl)(hy:cs=ys.map (List.map LV.sv):=by rfl)
 (hsm:len*sz≤16777216:=by first|decide|omega)(hlm:len≤16777216:=by first|decide|omega)
 (h:Reg P r N D B all (i+1) ops ((i,bK gn xs es (some d) (g,.sv (.sl sz ys)) [])::tr) (st ((d,(g,.sv (.sl sz ys)))::E) L n) K):
 Reg P r N D B all i (⟨some d,.buildSlice t len parts,ty,pos,aft,gd⟩::ops) tr (st E L n) K:=by
 have hop:(Oper.mk (some d) (.buildSlice t len parts) ty pos aft gd).op.operands.toList=xs:=by
  show(parts.toList.map (·.2)).toArray.toList=xs;rw[hp'];simp only[List.map_map,List.toList_toArray];have:((fun(x:Nat×Operand)=>x.2)∘fun(p:Operand×Nat)=>(p.2,p.1))=Prod.fst:=rfl;rw[this];simp
 refine dF (es:=es) (rd:=[]) (out:= .sv (.sl sz ys)) ho hg ?_ (by simp) (fun hgt=>?_) ?_;rw[hop];exact bw hx;rw[hes hgt];exact OpC.frz (OpC.buildSlice hF (by rfl) (by simp) hp' hcs hsz hlen hsm hlm 0) hl hy;rw[hop];exact h
def eG(P:Program)(t:Nat)(zs:List Value):Prop:=(∀w,(zeroValue t).run P w= .ok (.agg zs.toArray) w)∧(∀z∈zs,z.oneCell'=true)∧∃fields,(∀w,(underlying t).run P w= .ok (.struct fields) w)∧
 ∀w,(fields.mapM fun(f:Field)=>(do pure (f.offset,←sizeOf f.type):Sem (Nat×Nat))).run P w= .ok ((List.range zs.length).map fun k=>(k,1)).toArray w
theorem nw{m:Nat}:∀(ps:List (Nat×Value)) (C:Array Value),C.size=m→(∀p∈ps,p.1<m∧p.2.oneCell'=true)→
 Instr.fill (((List.range m).map fun k=>(k,1)).toArray[·]?) C ps=some (ps.foldl (fun(C:List Value) p=>C.set p.1 p.2) C.toList).toArray
 |[],C,_,_=>by simp[Instr.fill]
 |(j,v)::ps,C,hC,h=>by
  obtain⟨h1,h2⟩:=h (j,v) (by simp);have hc:=kz h2;have hj:j<m:=h1;have:=nw ps (C.setIfInBounds j v) (by simpa using hC) (fun p hp'=>h p (List.mem_cons_of_mem _ hp'));simp only[Instr.fill];have e1:((List.range m).map fun k=>(k,1)).toArray[j]?=some (j,1):=by simp[hj]
  rw[e1];simp only[hc];have e2:¬(j+1>C.size):=by omega
  rw[if_neg (by simpa using e2)];have e3:Array.foldl (fun(cs:Array Value) (x:Value×Nat)=>cs.setIfInBounds (j+x.2) x.1) C (#[v].zipIdx)=C.setIfInBounds j v:=by
   rw[←Array.foldl_toList,Array.toList_zipIdx];rfl
  have:=this.trans (show _=some (List.foldl (fun(C:List Value) p=>C.set p.1 p.2) C.toList ((j,v)::ps)).toArray by simp);rw[←this,←e3]
def Bv(zs:List Value)(is:List Nat)(lvs:List LV):List LV:=(is.zip lvs).foldl (fun(C:List LV) p=>C.set p.1 p.2) (zs.map fun z=>.v z)
theorem yX{cx:Cx}{w:World}:∀{cs:List LV} {vs:List Value} (k:Nat) {c:LV} {v:Value},Vs cx w cs vs→V cx w c v→Vs cx w (cs.set k c) (vs.set k v)
 |[],vs,k,c,v,h,hv=>by simp only[Vs]at h;subst h;simp[Vs]
 |c0::cs,vs,k,c,v,h,hv=>by
  simp only[Vs]at h;obtain⟨y,rs,rfl,h1,h2⟩:=h;cases k with
  |zero=>simp only[List.set_cons_zero,Vs];exact⟨_,_,rfl,hv,h2⟩
  |succ k=>simp only[List.set_cons_succ,Vs];exact⟨_,_,rfl,h1,yX k h2 hv⟩
theorem nz{cx:Cx}{w:World}:∀(is:List Nat) (lvs:List LV) (vs:List Value) (C:List LV) (D:List Value),Vs cx w C D→Vs cx w lvs vs→
 Vs cx w ((is.zip lvs).foldl (fun(C:List LV) p=>C.set p.1 p.2) C) ((is.zip vs).foldl (fun(C:List Value) p=>C.set p.1 p.2) D)
 |[],lvs,vs,C,D,hC,_=>by simpa using hC
 |k::is,[],vs,C,D,hC,hv=>by simp only[Vs]at hv;subst hv;simpa using hC
 |k::is,l::lvs,vs,C,D,hC,hv=>by
  simp only[Vs]at hv;obtain⟨v,vs',rfl,h1,h2⟩:=hv;simp only[List.zip_cons_cons,List.foldl_cons];exact nz is lvs vs' _ _ (yX k hC h1) h2
theorem br{t:Nat}{zs:List Value}(hF:eG P t zs){parts:Array (Nat×Operand)}{is:List Nat}{xs:List Operand}{es:List bB}{ls cs:List LV}
 (ho:all[i]?=some ⟨some d,.build t parts,ty,pos,aft,gd⟩:=by rfl)(hg:GuardOk (en E) all gd g gn:=by first|exact gN|exact gS rfl rfl)(hp':parts.toList=is.zip xs:=by rfl)(hil:is.length=xs.length:=by rfl)(hlt:(is.all fun k=>decide (k<zs.length))=true:=by rfl)
 (hx:xs.map (aP (en E))=es.map some:=by rfl)(hes:g=true→es.map bD=ls:=by first|exact fun _=>rfl|(intro h;simp[bD,h];done)|(intro h;simp only[List.map_cons,List.map_nil,fG h];first|done|rfl))(h1:ls.all LV.one=true:=by rfl)(hcs:Bv zs is ls=cs:=by rfl)
 (h:Reg P r N D B all (i+1) ops ((i,bK gn xs es (some d) (g,.agg cs) [])::tr) (st ((d,(g,.agg cs))::E) L n) K):
 Reg P r N D B all i (⟨some d,.build t parts,ty,pos,aft,gd⟩::ops) tr (st E L n) K:=by
 have hop:(Oper.mk (some d) (.build t parts) ty pos aft gd).op.operands.toList=xs:=by
  show(parts.toList.map (·.2)).toArray.toList=xs;rw[hp'];simp only[List.toList_toArray];exact List.map_snd_zip (by omega)
 refine dF (es:=es) (rd:=[]) (out:= .agg cs) ho hg ?_ (by simp) (fun hgt=>?_) ?_;rw[hop];exact bw hx;rw[hes hgt];refine dY (by simp) fun md n0 cx H ρ w _ _ hv=>?_;rw[hop]at hv;obtain⟨hz,hz1,fields,hu,hm⟩:=hF;have hones:=Vs.ones h1 hv;have hpl:(parts.map fun(x:Nat×Operand)=>(x.1,ρ x.2)).toList=is.zip (xs.map ρ):=by
  rw[Array.toList_map,hp',List.zip_map_right];rfl
 have hfill:=nw (m:=zs.length) (is.zip (xs.map ρ)) zs.toArray (by simp) (fun p hpm=>by
  obtain⟨hp1,hp2⟩:=List.of_mem_zip hpm;exact⟨by simpa using List.all_eq_true.1 hlt _ hp1,hones _ hp2⟩)
 refine⟨.agg ((is.zip (xs.map ρ)).foldl (fun(C:List Value) p=>C.set p.1 p.2) zs).toArray,?_,?_⟩;simp only[execOp,Instr.build,Sem.run_bind,hz w,hu w,Result.andThen_ok,hm w,Value.cells];have:(parts.map fun(i,x)=>(i,ρ x)).toList=is.zip (xs.map ρ):=hpl;rw[this];simp only[List.toList_toArray]at hfill;rw[hfill];simp;rw[←hcs];simp only[V];refine⟨_,rfl,nz is ls _ _ _ ?_ hv⟩;exact gB cx w zs;rw[hop];exact h
theorem Gk(t:Nat)(x y:Operand)(k:IntKind)(a b:Int):∀w,(do eqGuard .or t x y (.int k a) (.int k b);binOp .or t (.int k a) (.int k b):Sem Value).run P w= .ok (.int k (k.wrap ((BitVec.ofInt k.bits a|||BitVec.ofInt k.bits b).toNat))) w:=
 mX .or rfl t x y k a b fun w=>by simp[binOp,Op.intBits]
theorem Ei(t:Nat)(x y:Operand)(k:IntKind)(a b:Int):∀w,(do eqGuard .and t x y (.int k a) (.int k b);binOp .and t (.int k a) (.int k b):Sem Value).run P w= .ok (.int k (k.wrap ((BitVec.ofInt k.bits a&&&BitVec.ofInt k.bits b).toNat))) w:=
 mX .and rfl t x y k a b fun w=>by simp[binOp,Op.intBits]
end
section
variable{P:Program}{N:Nat}{B:bG}{E:List (Nat×bB)}{L:List (Nat×LO)}{n:Nat}
theorem ud{fn:Func}(h:fn.results=#[]){m k:Nat}{Hi Ho:List (Nat×LO)}(hA:∀o,B.cx.A o↔o<m)(hmd:B.md=cf B.cx (hp Hi))(hn:n=m+k)
 (hHo:∀o x,hp Ho o=some x→hp L o=some x){e:Exit}(he:e= .normal∨e= .ret):
 ∀cx a w,Rel B N [] (st E L n) cx a w→FnPost P fn B m (.tup []) Hi Ho k e a w:=by
 intro cx a w hr;subst hn;refine FnPost.of hA hmd hHo he hr (v:= .tuple #[]) ?_ ?_;simp[results,h];simp only[V,Vs];exact⟨[],rfl,rfl⟩
theorem KeepL.of{H:Hp}:∀{l:List (Nat×LO)},(∀p∈l,H p.1=some p.2)→KeepL H l
 |[],_=>trivial
 |p::l,h=>⟨h p (by simp),KeepL.of fun q hq=>h q (List.mem_cons_of_mem _ hq)⟩
theorem KeepL.app{l l':List (Nat×LO)}(hn:(l.map (·.1)).Nodup):KeepL (hp (l++l')) l:=KeepL.of fun p hp'=>by
 simp only[hp,dZ,bV hn hp']
end
section
variable{P:Program}{N:Nat}{B:bG}{E:List (Nat×bB)}{L:List (Nat×LO)}{n:Nat}
theorem lJ{fn:Func}{m k:Nat}{out:LV}{Hi Ho:List (Nat×LO)}
 (hA:∀o,B.cx.A o↔o<m)(hmd:B.md=cf B.cx (hp Hi))(hn:m+k≤n)(hHo:∀o x,hp Ho o=some x→hp L o=some x)(hol:(Ho.all fun p=>decide (p.1<m+k)&&p.2.lt (m+k))=true)(hout:out.lt (m+k)=true)
 {e:Exit}(he:e= .normal∨e= .ret){cx:Cx}{a:Act}{w:World}(hr:Rel B N [] (st E L n) cx a w){v:Value}(hv:(results fn a.tmps).run P w= .ok v w)(hvo:V cx w out v):
 FnPost P fn B m out Hi Ho k e a w:=by
 refine⟨he,?_⟩;rw[show a.defers=[]from hr.df]
 let c1:Cx:=⟨cx.pr,fun o=>o<m+k,cx.loc,cx.inn⟩
 have h1:∀o,o<m+k→c1.A o∧c1.loc o=cx.loc (id o):=fun o ho=>⟨ho,rfl⟩;have hlt:∀o x,hp Ho o=some x→o<m+k∧x.lt (m+k)=true:=fun o x hx=>by
  have:=List.all_eq_true.1 hol _ (dB hx);simpa using this
 refine⟨v,hv,v,c1,rfl,fun hne=>⟨fun o ho=>⟨?_,(hr.le o ho).2⟩,fun o=>?_,by rw[←hmd];exact hr.grow,⟨fun o x hx=>⟨(hlt o x hx).1,?_⟩,fun o x b hx hb=>by rw[←hmd];exact hr.heap.own o x b (hHo o x hx) hb,fun o o' x x' b hne hx hx' hb=>hr.heap.inj o o' x x' b hne (hHo o x hx) (hHo o' x' hx') hb,hr.heap.lim⟩,fun o ho hn=>absurd hn (hne o ho)⟩,?_⟩;have:=(hA o).1 ho;show o<m+k;omega;rw[hA];show o<m+k↔_;omega;have:=(hr.heap.ok o x (hHo o x hx)).2;exact ObjOk.unren (cx1:=c1) (cx2:=cx) (σ:=id) rfl h1 (hlt o x hx).1 (hlt o x hx).2 rfl (by rw[LO.mapI_id];exact this);exact V.unren (cx1:=c1) (cx2:=cx) (σ:=id) rfl h1 out v hout (by rw[mapI_id];exact hvo)
theorem rL{fn:Func}{t T TB sz o u:Nat}{cs:List LV}{l:LV}(h:fn.results=#[.cell t T,.tmp u])(hF:dO P T sz){m k:Nat}{Hi Ho:List (Nat×LO)}(hA:∀o,B.cx.A o↔o<m)(hmd:B.md=cf B.cx (hp Hi))(hn:m+k≤n)
 (hHo:∀o x,hp Ho o=some x→hp L o=some x)(ht:en E t=some (true,.ptr o 0))(hb:hp L o=some (.box TB cs))(hc:cs.length=sz)(hu:en E u=some (true,l)){e:Exit}(he:e= .normal∨e= .ret)
 (hol:(Ho.all fun p=>decide (p.1<m+k)&&p.2.lt (m+k))=true:=by rfl)(hout:(LV.tup [.agg cs,l]).lt (m+k)=true:=by rfl):
 ∀cx a w,Rel B N [] (st E L n) cx a w→FnPost P fn B m (.tup [.agg cs,l]) Hi Ho k e a w:=by
 intro cx a w hr;obtain⟨v,ad,h1,h2,h3⟩:=jU hF hr ht hb hc;refine lJ hA hmd hn hHo hol hout he hr (v:= .tuple #[v,a.tmps.getD u undef]) ?_ ?_;simp only[Array.getD_eq_getD_getElem?]at h1;simp[results,h,h1,asAddr,h2];simp only[V]at h3⊢;exact⟨[_,_],rfl,by simp only[Vs];exact⟨_,_,rfl,by simp only[V];exact h3,_,_,rfl,(hr.env u _ hu).1 rfl,rfl⟩⟩
end
end Go.Proofs.YtgkhfpfjokagfaaGreatDoor
namespace Go.Proofs.YtgkhfpfjokagfaaGreatDoor
section
variable{P:Program}{r:Option Nat}{N:Nat}{D:List Nat}{B:bG}{Ψ:Exit→Act→World→Prop}{todo:List Item}{E:List (Nat×bB)}{L:List (Nat×LO)}{n:Nat}
def DH(s:Nat→Nat)(E:List (Nat×bB)):List (Nat×bB):=E.map fun p=>(p.1,p.2.1,p.2.2.mapI s)
def wC(s:Nat→Nat)(L:List (Nat×LO)):List (Nat×LO):=L.map fun p=>(s p.1,p.2.mapI s)
theorem LGo.ren(s:Nat→Nat)(m:Nat)(hB:∀o,B.cx.A o→o<m∧s o=o)(hs:∀j,j<m→s j<n)(hinj:∀i j,i<m→j<m→s i=s j→i=j)(E':List (Nat×bB))(L':List (Nat×LO))
 (hE:KeepE (en E) (DH s E'))(hL:KeepL (hp L) (wC s L'))(hEl:∀p∈E',p.2.2.lt m=true)(hLl:∀p∈L',p.1<m∧p.2.lt m=true)
 (hD:∀o∈D,o<m∧s o=o)(h:LGo P r N D B Ψ todo (st E' L' m)):LGo P r N D B Ψ todo (st E L n):=by
 refine LGo.conv (fun cx a w hr=>?_) h
 let c2:Cx:=⟨cx.pr,fun o=>o<m,fun o=>cx.loc (s o),fun o=>cx.inn (s o)⟩
 have h1:∀o,o<m→c2.A o∧c2.loc o=cx.loc (s o):=fun o ho=>⟨ho,rfl⟩;have getE:∀{l:List (Nat×bB)} {t:Nat} {e:bB},en l t=some e→KeepE (en E) (DH s l)→(t,e)∈l∧en E t=some (e.1,e.2.mapI s):=by
  intro l;induction l with
  |nil=>intro t e h;simp at h
  |cons p l ih=>
   obtain⟨pk,pv⟩:=p;intro t e ht hk;simp only[DH,List.map_cons,KeepE]at hk;simp only[en,List.lookup_cons]at ht;split at ht;rename_i hh;simp at hh;cases ht;subst hh;exact⟨by simp,hk.1⟩
   obtain⟨k1,k2⟩:=ih ht hk.2;exact⟨List.mem_cons_of_mem _ k1,k2⟩
 have getL:∀{l:List (Nat×LO)} {t:Nat} {e:LO},hp l t=some e→KeepL (hp L) (wC s l)→(t,e)∈l∧hp L (s t)=some (e.mapI s):=by
  intro l;induction l with
  |nil=>intro t e h;simp at h
  |cons p l ih=>
   obtain⟨pk,pv⟩:=p;intro t e ht hk;simp only[wC,List.map_cons,KeepL]at hk;simp only[hp,List.lookup_cons]at ht;split at ht;rename_i hh;simp at hh;cases ht;subst hh;exact⟨by simp,hk.1⟩
   obtain⟨k1,k2⟩:=ih ht hk.2;exact⟨List.mem_cons_of_mem _ k1,k2⟩
 refine⟨c2,⟨hr.grow,fun o ho=>⟨(hB o ho).1,?_⟩,rfl,⟨fun o x hx=>?_,fun o x b hx hb=>?_,fun o o' x x' b hne hx hx' hb=>?_,hr.heap.lim⟩,hr.size,fun t e he=>?_,?_,fun o ho=>(hD o ho).1⟩⟩;show cx.loc (s o)=_;rw[(hB o ho).2];exact(hr.le o ho).2;obtain⟨k1,k2⟩:=getL hx hL;obtain⟨k3,k4⟩:=hLl _ k1;exact⟨k3,ObjOk.unren (cx1:=c2) (cx2:=cx) (σ:=s) rfl h1 k3 k4 rfl (hr.heap.ok _ _ k2).2⟩;obtain⟨k1,k2⟩:=getL hx hL;exact hr.heap.own _ _ b k2 (ke rfl rfl hb);obtain⟨k1,k2⟩:=getL hx hL;obtain⟨k1',k2'⟩:=getL hx' hL;exact hr.heap.inj _ _ _ _ b (fun e=>hne (hinj _ _ (hLl _ k1).1 (hLl _ k1').1 e)) k2 k2' (ke rfl rfl hb)∘(ke rfl rfl);obtain⟨k1,k2⟩:=getE he hE;have:=hr.env t _ k2;exact⟨fun hg=>V.unren (cx1:=c2) (cx2:=cx) (σ:=s) rfl h1 _ _ (hEl _ k1) (this.1 hg),this.2⟩;rw[hr.df];refine List.map_congr_left (fun o ho=>?_);simp only[Ay];show _=Deferred.mk (.collected ((bk (cx.loc (s o))).getD 0)) #[];rw[(hD o ho).2]
theorem bM(ids:List Nat){b:Nat}(hB:∀o,B.cx.A o→o<b){E':List (Nat×bB)}{L':List (Nat×LO)}(h:LGo P r N D B Ψ todo (st E' L' ids.length))
 (hE:KeepE (en E) (DH (fun j=>ids.getD j 0) E'))(hL:KeepL (hp L) (wC (fun j=>ids.getD j 0) L'))
 (hb:ids.take b=List.range b:=by rfl)(hlt:(ids.all fun i=>decide (i<n))=true:=by rfl)(hnd:ids.Nodup:=by decide)
 (hEl:(E'.all fun p=>p.2.2.lt ids.length)=true:=by rfl)(hLl:(L'.all fun p=>decide (p.1<ids.length)&&p.2.lt ids.length)=true:=by rfl)(hD:∀o∈D,o<b:=by simp):LGo P r N D B Ψ todo (st E L n):=by
 have hbl:∀o,o<b→o<ids.length∧ids.getD o 0=o:=by
  intro o ho;have hl:(ids.take b).length=b:=by rw[hb];simp
  rw[List.length_take]at hl;have h1:o<ids.length:=by omega
  refine⟨h1,?_⟩;have h2:(ids.take b)[o]?=some o:=by rw[hb];simp[ho]
  rw[List.getElem?_take,if_pos ho]at h2;simp[List.getD_eq_getElem?_getD,h2]
 refine LGo.ren (fun j=>ids.getD j 0) ids.length (fun o ho=>hbl o (hB o ho)) (fun j hj=>?_) (fun i j hi hj he=>?_) E' L' hE hL (fun p hp'=>List.all_eq_true.1 hEl p hp') (fun p hp'=>by have:=List.all_eq_true.1 hLl p hp';simpa using this) (fun o ho=>hbl o (hD o ho)) h;simp only[List.getD_eq_getElem?_getD,List.getElem?_eq_getElem hj,Option.getD_some];simpa using List.all_eq_true.1 hlt _ (List.getElem_mem hj);simp only[List.getD_eq_getElem?_getD,List.getElem?_eq_getElem hi,List.getElem?_eq_getElem hj,Option.getD_some]at he;rcases Nat.lt_trichotomy i j with hlt'|heq|hlt'
 exact absurd he (List.pairwise_iff_getElem.1 hnd i j hi hj hlt');exact heq;exact absurd he.symm (List.pairwise_iff_getElem.1 hnd j i hj hi hlt')
end
theorem jB{o:Nat}{x:LO}{L:List (Nat×LO)}(h:hp L o=some x):∀(q:Nat) (y:LO),hp [(o,x)] q=some y→hp L q=some y:=by
 intro q y hy;simp only[hp,List.lookup_cons,List.lookup_nil]at hy;cases ho:(q==o)with
 |true=>
  rw[ho]at hy;cases hy;have:q=o:=by simpa using ho
  subst this;exact h
 |false=>rw[ho]at hy;cases hy
section
variable{P:Program}{r:Option Nat}{N:Nat}{D:List Nat}{B:bG}{all:Array Oper}{K:List (Nat×Ct)→St→Prop}
variable{i:Nat}{ops:List Oper}{tr:List (Nat×Ct)}{E:List (Nat×bB)}{L:List (Nat×LO)}{n:Nat}
variable{d ty:Nat}{pos:String}{aft:Array Edge}
theorem tH{f k:Nat}{args:Array Operand}{ats:Array TypeId}{es:List bB}{lvs:List LV}{out out':LV}{Ho Ho':List (Nat×LO)}(hc:LC P f 0 lvs [] out Ho k)
 (ho:all[i]?=some ⟨some d,.call {callee:= .value (.func f),args:=args,argTypes:=ats},ty,pos,aft,none⟩:=by rfl)
 (hx:args.toList.map (aP (en E))=es.map some:=by rfl)(hes:es.map bD=lvs:=by rfl)(hout:out.mapI (sg [] n)=out':=by rfl)(hHo:(Ho.map fun p=>(sg [] n p.1,p.2.mapI (sg [] n)))=Ho':=by rfl)
 (h:Reg P r N D B all (i+1) ops ((i,⟨bA (.func f::args.toList) ((true,.fn (.func f) [] [])::es),some d,(true,out'),[],[],Ho',List.range' n k⟩)::tr) (st ((d,(true,out'))::E) (Ho'++L) (n+k)) K):
 Reg P r N D B all i (⟨some d,.call {callee:= .value (.func f),args:=args,argTypes:=ats},ty,pos,aft,none⟩::ops) tr (st E L n) K:=by
 have hl:(Oper.mk (some d) (.call {callee:= .value (.func f),args:=args,argTypes:=ats}) ty pos aft none).op.operands.toList= .func f::args.toList:=by simp[Op.operands,Go.Call.operands]
 have h0:an 0 lvs=true:=hc.args;have h2:=OpC.call (r:=r) (n:=n) (ids:=[]) (k:=k) (Ho:=Ho) hc List.nodup_nil (o:=⟨some d,.call {callee:= .value (.func f),args:=args,argTypes:=ats},ty,pos,aft,none⟩) rfl rfl (first:=[]) (cap:=[]) (avs:=lvs)
  (by rw[cw _ _ h0];simp)
 rw[hout,hHo]at h2;refine gM (m:=k) (es:=(true,.fn (.func f) [] [])::es) (rd:=[]) (Hi:=[]) (Ho:=Ho') (out:=out') ho gN (by rw[hl];exact⟨_,_,rfl,rfl,bw hx⟩) (by simp) (by simp) (by rw[←hes]at h2;exact h2) ?_;have e:jA L [] Ho'=Ho'++L:=by simp[jA]
 rw[e];rw[hl];exact h
end
section
variable{P:Program}{r:Option Nat}{N:Nat}{D:List Nat}{B:bG}{all:Array Oper}{K:List (Nat×Ct)→St→Prop}
variable{i:Nat}{ops:List Oper}{tr:List (Nat×Ct)}{E:List (Nat×bB)}{L:List (Nat×LO)}{n:Nat}{g:Bool}{gn:List (Nat×bB)}
variable{d ty:Nat}{pos:String}{aft:Array Edge}{gd:Option (Nat×Bool)}
end
end Go.Proofs.YtgkhfpfjokagfaaGreatDoor
namespace Go.Proofs.YtgkhfpfjokagfaaGreatDoor
section
variable{P:Program}{N:Nat}{B:bG}{E:List (Nat×bB)}{L:List (Nat×LO)}{n:Nat}{D:List Nat}
theorem qd{T TB:Nat}{o off:Nat}{cs:List LV}{c:LV}(hF:dP P T){cx:Cx}{a:Act}{w:World}(hr:Rel B N D (st E L n) cx a w){t:Nat}
 (ht:en E t=some (true,.ptr o off))(hb:hp L o=some (.box TB cs))(hc:cs[off]?=some c):
 ∃v ad,a.tmps.getD t undef= .pointer (some ad)∧(loadVar T ad).run P w= .ok v w∧V cx w c v:=by
 have hv:=(hr.env t _ ht).1 rfl;simp only[V]at hv;obtain⟨hA,b,hbk,he⟩:=hv;obtain⟨b',vs,k1,k2,k3⟩:=(hr.heap.ok o _ hb).2;rw[k1]at hbk;simp only[bk,Option.some.injEq]at hbk;subst hbk;obtain⟨v,hv1,hv2⟩:=k3.get hc;refine⟨v,_,he,?_,hv2⟩;have hcell:w.cell? ⟨b',off,none⟩=some v:=by simp[World.cell?,k2,hv1]
 simp[loadVar,hF.1 w,hcell]
def kL(P:Program)(B:bG)(N:Nat)(D:List Nat)(E:List (Nat×bB))(L:List (Nat×LO))(n:Nat)(fn:Func)(l:LV):Prop:=
 ∀cx a w,Rel B N D (st E L n) cx a w→∃v,(results fn a.tmps).run P w= .ok v w∧V cx w l v
theorem dW{fn:Func}{l:LV}(hres:kL P B N [] E L n fn l){m k:Nat}{Hi Ho:List (Nat×LO)}(hA:∀o,B.cx.A o↔o<m)(hmd:B.md=cf B.cx (hp Hi))(hn:m+k≤n)(hK:KeepL (hp L) Ho)
 (hol:(Ho.all fun p=>decide (p.1<m+k)&&p.2.lt (m+k))=true)(hout:l.lt (m+k)=true){e:Exit}(he:e= .normal∨e= .ret):∀cx a w,Rel B N [] (st E L n) cx a w→FnPost P fn B m l Hi Ho k e a w:=by
 intro cx a w hr;obtain⟨v,h1,h2⟩:=hres cx a w hr;exact lJ hA hmd hn (fun o x hx=>hK.get hx) hol hout he hr h1 h2
theorem bF(ids:List Nat){fn:Func}{l out:LV}(hres:kL P B N [] E L n fn l){m k:Nat}{Hi Ho:List (Nat×LO)}(hA:∀o,B.cx.A o↔o<m)(hmd:B.md=cf B.cx (hp Hi))
 (hK:KeepL (hp L) (wC (fun j=>ids.getD j 0) Ho):=by repeat (first|exact trivial|refine⟨rfl,?_⟩))(hl:l=out.mapI (fun j=>ids.getD j 0):=by rfl)(hb:ids.take m=List.range m:=by rfl)(hlen:ids.length=m+k:=by rfl)(hnd:ids.Nodup:=by decide)
 (hol:(Ho.all fun p=>decide (p.1<m+k)&&p.2.lt (m+k))=true:=by first|rfl|simp[LO.lt,an,LV.lt,aq])(hout:out.lt (m+k)=true:=by first|rfl|simp[an,LV.lt,aq]){e:Exit}(he:e= .normal∨e= .ret:=by first|exact .inr rfl|exact .inl rfl):
 ∀cx a w,Rel B N [] (st E L n) cx a w→FnPost P fn B m out Hi Ho k e a w:=by
 intro cx a w hr;obtain⟨v,hv,hvo⟩:=hres cx a w hr;refine⟨he,?_⟩;rw[show a.defers=[]from hr.df]
 let s:Nat→Nat:=fun j=>ids.getD j 0
 let c1:Cx:=⟨cx.pr,fun o=>o<m+k,fun o=>cx.loc (s o),fun o=>cx.inn (s o)⟩
 have h1:∀o,o<m+k→c1.A o∧c1.loc o=cx.loc (s o):=fun o ho=>⟨ho,rfl⟩;have hs0:∀o,o<m→s o=o:=by
  intro o ho;have h2:(ids.take m)[o]?=some o:=by rw[hb];simp[ho]
  rw[List.getElem?_take,if_pos ho]at h2;simp[s,List.getD_eq_getElem?_getD,h2]
 have hinj:∀i j,i<m+k→j<m+k→s i=s j→i=j:=by
  intro i j hi hj hij;rw[←hlen]at hi hj;simp only[s,List.getD_eq_getElem?_getD,List.getElem?_eq_getElem hi,List.getElem?_eq_getElem hj,Option.getD_some]at hij;rcases Nat.lt_trichotomy i j with hlt'|heq|hlt'
  exact absurd hij (List.pairwise_iff_getElem.1 hnd i j hi hj hlt');exact heq;exact absurd hij.symm (List.pairwise_iff_getElem.1 hnd j i hj hi hlt')
 have hlt:∀o x,hp Ho o=some x→o<m+k∧x.lt (m+k)=true:=fun o x hx=>by
  have:=List.all_eq_true.1 hol _ (dB hx);simpa using this
 have getL:∀{l:List (Nat×LO)} {t:Nat} {e:LO},hp l t=some e→KeepL (hp L) (wC s l)→hp L (s t)=some (e.mapI s):=by
  intro l;induction l with
  |nil=>intro t e h;simp at h
  |cons p l ih=>
   obtain⟨pk,pv⟩:=p;intro t e ht hk;simp only[wC,List.map_cons,KeepL]at hk;simp only[hp,List.lookup_cons]at ht;split at ht;rename_i hh;simp at hh;cases ht;subst hh;exact hk.1
   exact ih ht hk.2
 refine⟨v,hv,v,c1,rfl,fun hne=>⟨fun o ho=>⟨?_,?_⟩,fun o=>?_,by rw[←hmd];exact hr.grow,⟨fun o x hx=>⟨(hlt o x hx).1,?_⟩,fun o x b hx hb'=>by rw[←hmd];exact hr.heap.own _ _ b (getL hx hK) (ke (cx1:=c1) rfl rfl hb'),
  fun o o' x x' b hne' hx hx' hb' hb''=>hr.heap.inj _ _ _ _ b (fun e=>hne' (hinj _ _ (hlt o x hx).1 (hlt o' x' hx').1 e)) (getL hx hK) (getL hx' hK) (ke (cx1:=c1) rfl rfl hb') (ke (cx1:=c1) rfl rfl hb''),hr.heap.lim⟩,fun o ho hn=>absurd hn (hne o ho)⟩,?_⟩
 have:=(hA o).1 ho;show o<m+k;omega;show cx.loc (s o)=_;rw[hs0 o ((hA o).1 ho)];exact(hr.le o ho).2;rw[hA];show o<m+k↔_;omega;exact ObjOk.unren (cx1:=c1) (cx2:=cx) (σ:=s) rfl h1 (hlt o x hx).1 (hlt o x hx).2 rfl (hr.heap.ok _ _ (getL hx hK)).2;exact V.unren (cx1:=c1) (cx2:=cx) (σ:=s) rfl h1 out v hout (by rw[←hl];exact hvo)
theorem gI{fn:Func}{t0:Nat}{l0:LV}(h:fn.results=#[.tmp t0])
 (h0:en E t0=some (true,l0):=by rfl):
 kL P B N D E L n fn (l0):=by
 intro cx a w hr;refine⟨a.tmps.getD t0 undef,?_,?_⟩;simp[results,h];exact(hr.env t0 _ h0).1 rfl
theorem ax{fn:Func}{t0:Nat}{l0:LV}(h:fn.results=#[.tmp t0]){m k:Nat}{Hi Ho:List (Nat×LO)}(hA:∀o,B.cx.A o↔o<m)(hmd:B.md=cf B.cx (hp Hi))
 (h0:en E t0=some (true,l0):=by rfl)(hn:m+k≤n:=by first|omega|decide)
 (hK:KeepL (hp L) Ho:=by repeat (first|exact trivial|refine⟨rfl,?_⟩))
 (hol:(Ho.all fun p=>decide (p.1<m+k)&&p.2.lt (m+k))=true:=by first|rfl|simp[LO.lt,an,LV.lt,aq])(hout:LV.lt (m+k) (l0)=true:=by first|rfl|simp[an,LV.lt,aq]){e:Exit}(he:e= .normal∨e= .ret:=by first|exact .inr rfl|exact .inl rfl):
 ∀cx a w,Rel B N [] (st E L n) cx a w→FnPost P fn B m (l0) Hi Ho k e a w:=
 dW (gI h h0) hA hmd hn hK hol hout he
theorem AQ{fn:Func}{t0 T0 o0 TB0 sz0:Nat}{cs0:List LV}(h:fn.results=#[.cell t0 T0])(f0:dO P T0 sz0)
 (h0:en E t0=some (true,.ptr o0 0):=by rfl)(b0:hp L o0=some (.box TB0 cs0):=by rfl)(c0:cs0.length=sz0:=by rfl):
 kL P B N D E L n fn (.agg cs0):=by
 intro cx a w hr;obtain⟨v0,ad0,p0,q0,r0⟩:=jU f0 hr h0 b0 c0;refine⟨v0,?_,?_⟩;simp only[Array.getD_eq_getD_getElem?]at p0;simp[results,h,p0,asAddr,q0];exact r0
theorem cM{fn:Func}{t0 T0 o0 TB0 sz0:Nat}{cs0:List LV}(h:fn.results=#[.cell t0 T0])(f0:dO P T0 sz0){m k:Nat}{Hi Ho:List (Nat×LO)}(hA:∀o,B.cx.A o↔o<m)(hmd:B.md=cf B.cx (hp Hi))
 (h0:en E t0=some (true,.ptr o0 0):=by rfl)(b0:hp L o0=some (.box TB0 cs0):=by rfl)(c0:cs0.length=sz0:=by rfl)(hn:m+k≤n:=by first|omega|decide)
 (hK:KeepL (hp L) Ho:=by repeat (first|exact trivial|refine⟨rfl,?_⟩))
 (hol:(Ho.all fun p=>decide (p.1<m+k)&&p.2.lt (m+k))=true:=by first|rfl|simp[LO.lt,an,LV.lt,aq])(hout:LV.lt (m+k) (.agg cs0)=true:=by first|rfl|simp[an,LV.lt,aq]){e:Exit}(he:e= .normal∨e= .ret:=by first|exact .inr rfl|exact .inl rfl):
 ∀cx a w,Rel B N [] (st E L n) cx a w→FnPost P fn B m (.agg cs0) Hi Ho k e a w:=
 dW (AQ h f0 h0 b0 c0) hA hmd hn hK hol hout he
theorem m2{fn:Func}{t0:Nat}{l0:LV}{t1:Nat}{l1:LV}(h:fn.results=#[.tmp t0,.tmp t1])
 (h0:en E t0=some (true,l0):=by rfl)(h1:en E t1=some (true,l1):=by rfl):
 kL P B N D E L n fn (.tup [l0,l1]):=by
 intro cx a w hr;refine⟨.tuple #[a.tmps.getD t0 undef,a.tmps.getD t1 undef],?_,?_⟩;simp[results,h];simp only[V,Vs];exact⟨[_,_],rfl,_,_,rfl,(hr.env t0 _ h0).1 rfl,_,_,rfl,(hr.env t1 _ h1).1 rfl,rfl⟩
theorem aI{fn:Func}{t0:Nat}{l0:LV}{t1:Nat}{l1:LV}(h:fn.results=#[.tmp t0,.tmp t1]){m k:Nat}{Hi Ho:List (Nat×LO)}(hA:∀o,B.cx.A o↔o<m)(hmd:B.md=cf B.cx (hp Hi))
 (h0:en E t0=some (true,l0):=by rfl)(h1:en E t1=some (true,l1):=by rfl)(hn:m+k≤n:=by first|omega|decide)
 (hK:KeepL (hp L) Ho:=by repeat (first|exact trivial|refine⟨rfl,?_⟩))
 (hol:(Ho.all fun p=>decide (p.1<m+k)&&p.2.lt (m+k))=true:=by first|rfl|simp[LO.lt,an,LV.lt,aq])(hout:LV.lt (m+k) (.tup [l0,l1])=true:=by first|rfl|simp[an,LV.lt,aq]){e:Exit}(he:e= .normal∨e= .ret:=by first|exact .inr rfl|exact .inl rfl):
 ∀cx a w,Rel B N [] (st E L n) cx a w→FnPost P fn B m (.tup [l0,l1]) Hi Ho k e a w:=
 dW (m2 h h0 h1) hA hmd hn hK hol hout he
theorem Gn{fn:Func}{t0 T0 o0 TB0 sz0:Nat}{cs0:List LV}{t1:Nat}{l1:LV}(h:fn.results=#[.cell t0 T0,.tmp t1])(f0:dO P T0 sz0)
 (h0:en E t0=some (true,.ptr o0 0):=by rfl)(b0:hp L o0=some (.box TB0 cs0):=by rfl)(c0:cs0.length=sz0:=by rfl)(h1:en E t1=some (true,l1):=by rfl):
 kL P B N D E L n fn (.tup [.agg cs0,l1]):=by
 intro cx a w hr;obtain⟨v0,ad0,p0,q0,r0⟩:=jU f0 hr h0 b0 c0;refine⟨.tuple #[v0,a.tmps.getD t1 undef],?_,?_⟩;simp only[Array.getD_eq_getD_getElem?]at p0;simp[results,h,p0,asAddr,q0];rw[V];refine⟨[_,_],rfl,?_⟩;simp only[Vs];exact⟨_,_,rfl,r0,_,_,rfl,(hr.env t1 _ h1).1 rfl,rfl⟩
theorem cy{fn:Func}{t0 T0 o0 TB0 sz0:Nat}{cs0:List LV}{t1:Nat}{l1:LV}(h:fn.results=#[.cell t0 T0,.tmp t1])(f0:dO P T0 sz0){m k:Nat}{Hi Ho:List (Nat×LO)}(hA:∀o,B.cx.A o↔o<m)(hmd:B.md=cf B.cx (hp Hi))
 (h0:en E t0=some (true,.ptr o0 0):=by rfl)(b0:hp L o0=some (.box TB0 cs0):=by rfl)(c0:cs0.length=sz0:=by rfl)(h1:en E t1=some (true,l1):=by rfl)(hn:m+k≤n:=by first|omega|decide)
 (hK:KeepL (hp L) Ho:=by repeat (first|exact trivial|refine⟨rfl,?_⟩))
 (hol:(Ho.all fun p=>decide (p.1<m+k)&&p.2.lt (m+k))=true:=by first|rfl|simp[LO.lt,an,LV.lt,aq])(hout:LV.lt (m+k) (.tup [.agg cs0,l1])=true:=by first|rfl|simp[an,LV.lt,aq]){e:Exit}(he:e= .normal∨e= .ret:=by first|exact .inr rfl|exact .inl rfl):
 ∀cx a w,Rel B N [] (st E L n) cx a w→FnPost P fn B m (.tup [.agg cs0,l1]) Hi Ho k e a w:=
 dW (Gn h f0 h0 b0 c0 h1) hA hmd hn hK hol hout he
theorem Gm{fn:Func}{t0 T0 o0 TB0 off0:Nat}{cs0:List LV}{l0:LV}{t1 T1 o1 TB1 off1:Nat}{cs1:List LV}{l1:LV}(h:fn.results=#[.cell t0 T0,.cell t1 T1])(f0:dP P T0)(f1:dP P T1)
 (h0:en E t0=some (true,.ptr o0 off0):=by rfl)(b0:hp L o0=some (.box TB0 cs0):=by rfl)(c0:cs0[off0]?=some l0:=by rfl)(h1:en E t1=some (true,.ptr o1 off1):=by rfl)(b1:hp L o1=some (.box TB1 cs1):=by rfl)(c1:cs1[off1]?=some l1:=by rfl):
 kL P B N D E L n fn (.tup [l0,l1]):=by
 intro cx a w hr;obtain⟨v0,ad0,p0,q0,r0⟩:=qd f0 hr h0 b0 c0;obtain⟨v1,ad1,p1,q1,r1⟩:=qd f1 hr h1 b1 c1;refine⟨.tuple #[v0,v1],?_,?_⟩;simp only[Array.getD_eq_getD_getElem?]at p0 p1;simp[results,h,p0,asAddr,q0,p1,asAddr,q1];rw[V];refine⟨[_,_],rfl,?_⟩;simp only[Vs];exact⟨_,_,rfl,r0,_,_,rfl,r1,rfl⟩
theorem kZ{fn:Func}{t0 T0 o0 TB0 off0:Nat}{cs0:List LV}{l0:LV}{t1 T1 o1 TB1 off1:Nat}{cs1:List LV}{l1:LV}(h:fn.results=#[.cell t0 T0,.cell t1 T1])(f0:dP P T0)(f1:dP P T1){m k:Nat}{Hi Ho:List (Nat×LO)}(hA:∀o,B.cx.A o↔o<m)(hmd:B.md=cf B.cx (hp Hi))
 (h0:en E t0=some (true,.ptr o0 off0):=by rfl)(b0:hp L o0=some (.box TB0 cs0):=by rfl)(c0:cs0[off0]?=some l0:=by rfl)(h1:en E t1=some (true,.ptr o1 off1):=by rfl)(b1:hp L o1=some (.box TB1 cs1):=by rfl)(c1:cs1[off1]?=some l1:=by rfl)(hn:m+k≤n:=by first|omega|decide)
 (hK:KeepL (hp L) Ho:=by repeat (first|exact trivial|refine⟨rfl,?_⟩))
 (hol:(Ho.all fun p=>decide (p.1<m+k)&&p.2.lt (m+k))=true:=by first|rfl|simp[LO.lt,an,LV.lt,aq])(hout:LV.lt (m+k) (.tup [l0,l1])=true:=by first|rfl|simp[an,LV.lt,aq]){e:Exit}(he:e= .normal∨e= .ret:=by first|exact .inr rfl|exact .inl rfl):
 ∀cx a w,Rel B N [] (st E L n) cx a w→FnPost P fn B m (.tup [l0,l1]) Hi Ho k e a w:=
 dW (Gm h f0 f1 h0 b0 c0 h1 b1 c1) hA hmd hn hK hol hout he
theorem Em{fn:Func}{t0:Nat}{l0:LV}{t1:Nat}{l1:LV}{t2:Nat}{l2:LV}(h:fn.results=#[.tmp t0,.tmp t1,.tmp t2])
 (h0:en E t0=some (true,l0):=by rfl)(h1:en E t1=some (true,l1):=by rfl)(h2:en E t2=some (true,l2):=by rfl):
 kL P B N D E L n fn (.tup [l0,l1,l2]):=by
 intro cx a w hr;refine⟨.tuple #[a.tmps.getD t0 undef,a.tmps.getD t1 undef,a.tmps.getD t2 undef],?_,?_⟩;simp[results,h];simp only[V,Vs];exact⟨[_,_,_],rfl,_,_,rfl,(hr.env t0 _ h0).1 rfl,_,_,rfl,(hr.env t1 _ h1).1 rfl,_,_,rfl,(hr.env t2 _ h2).1 rfl,rfl⟩
theorem iQ{fn:Func}{t0:Nat}{l0:LV}{t1:Nat}{l1:LV}{t2:Nat}{l2:LV}(h:fn.results=#[.tmp t0,.tmp t1,.tmp t2]){m k:Nat}{Hi Ho:List (Nat×LO)}(hA:∀o,B.cx.A o↔o<m)(hmd:B.md=cf B.cx (hp Hi))
 (h0:en E t0=some (true,l0):=by rfl)(h1:en E t1=some (true,l1):=by rfl)(h2:en E t2=some (true,l2):=by rfl)(hn:m+k≤n:=by first|omega|decide)
 (hK:KeepL (hp L) Ho:=by repeat (first|exact trivial|refine⟨rfl,?_⟩))
 (hol:(Ho.all fun p=>decide (p.1<m+k)&&p.2.lt (m+k))=true:=by first|rfl|simp[LO.lt,an,LV.lt,aq])(hout:LV.lt (m+k) (.tup [l0,l1,l2])=true:=by first|rfl|simp[an,LV.lt,aq]){e:Exit}(he:e= .normal∨e= .ret:=by first|exact .inr rfl|exact .inl rfl):
 ∀cx a w,Rel B N [] (st E L n) cx a w→FnPost P fn B m (.tup [l0,l1,l2]) Hi Ho k e a w:=
 dW (Em h h0 h1 h2) hA hmd hn hK hol hout he
theorem Eo{fn:Func}{t0 T0 o0 TB0 sz0:Nat}{cs0:List LV}{t1:Nat}{l1:LV}{t2:Nat}{l2:LV}(h:fn.results=#[.cell t0 T0,.tmp t1,.tmp t2])(f0:dO P T0 sz0)
 (h0:en E t0=some (true,.ptr o0 0):=by rfl)(b0:hp L o0=some (.box TB0 cs0):=by rfl)(c0:cs0.length=sz0:=by rfl)(h1:en E t1=some (true,l1):=by rfl)(h2:en E t2=some (true,l2):=by rfl):
 kL P B N D E L n fn (.tup [.agg cs0,l1,l2]):=by
 intro cx a w hr;obtain⟨v0,ad0,p0,q0,r0⟩:=jU f0 hr h0 b0 c0;refine⟨.tuple #[v0,a.tmps.getD t1 undef,a.tmps.getD t2 undef],?_,?_⟩;simp only[Array.getD_eq_getD_getElem?]at p0;simp[results,h,p0,asAddr,q0];rw[V];refine⟨[_,_,_],rfl,?_⟩;simp only[Vs];exact⟨_,_,rfl,r0,_,_,rfl,(hr.env t1 _ h1).1 rfl,_,_,rfl,(hr.env t2 _ h2).1 rfl,rfl⟩
theorem te{fn:Func}{t0 T0 o0 TB0 sz0:Nat}{cs0:List LV}{t1:Nat}{l1:LV}{t2:Nat}{l2:LV}(h:fn.results=#[.cell t0 T0,.tmp t1,.tmp t2])(f0:dO P T0 sz0){m k:Nat}{Hi Ho:List (Nat×LO)}(hA:∀o,B.cx.A o↔o<m)(hmd:B.md=cf B.cx (hp Hi))
 (h0:en E t0=some (true,.ptr o0 0):=by rfl)(b0:hp L o0=some (.box TB0 cs0):=by rfl)(c0:cs0.length=sz0:=by rfl)(h1:en E t1=some (true,l1):=by rfl)(h2:en E t2=some (true,l2):=by rfl)(hn:m+k≤n:=by first|omega|decide)
 (hK:KeepL (hp L) Ho:=by repeat (first|exact trivial|refine⟨rfl,?_⟩))
 (hol:(Ho.all fun p=>decide (p.1<m+k)&&p.2.lt (m+k))=true:=by first|rfl|simp[LO.lt,an,LV.lt,aq])(hout:LV.lt (m+k) (.tup [.agg cs0,l1,l2])=true:=by first|rfl|simp[an,LV.lt,aq]){e:Exit}(he:e= .normal∨e= .ret:=by first|exact .inr rfl|exact .inl rfl):
 ∀cx a w,Rel B N [] (st E L n) cx a w→FnPost P fn B m (.tup [.agg cs0,l1,l2]) Hi Ho k e a w:=
 dW (Eo h f0 h0 b0 c0 h1 h2) hA hmd hn hK hol hout he
theorem Ep{fn:Func}{t0 T0 o0 TB0 sz0:Nat}{cs0:List LV}{t1 T1 o1 TB1 off1:Nat}{cs1:List LV}{l1:LV}{t2:Nat}{l2:LV}(h:fn.results=#[.cell t0 T0,.cell t1 T1,.tmp t2])(f0:dO P T0 sz0)(f1:dP P T1)
 (h0:en E t0=some (true,.ptr o0 0):=by rfl)(b0:hp L o0=some (.box TB0 cs0):=by rfl)(c0:cs0.length=sz0:=by rfl)(h1:en E t1=some (true,.ptr o1 off1):=by rfl)(b1:hp L o1=some (.box TB1 cs1):=by rfl)(c1:cs1[off1]?=some l1:=by rfl)(h2:en E t2=some (true,l2):=by rfl):
 kL P B N D E L n fn (.tup [.agg cs0,l1,l2]):=by
 intro cx a w hr;obtain⟨v0,ad0,p0,q0,r0⟩:=jU f0 hr h0 b0 c0;obtain⟨v1,ad1,p1,q1,r1⟩:=qd f1 hr h1 b1 c1;refine⟨.tuple #[v0,v1,a.tmps.getD t2 undef],?_,?_⟩;simp only[Array.getD_eq_getD_getElem?]at p0 p1;simp[results,h,p0,asAddr,q0,p1,asAddr,q1];rw[V];refine⟨[_,_,_],rfl,?_⟩;simp only[Vs];exact⟨_,_,rfl,r0,_,_,rfl,r1,_,_,rfl,(hr.env t2 _ h2).1 rfl,rfl⟩
theorem lZ{fn:Func}{t0 T0 o0 TB0 sz0:Nat}{cs0:List LV}{t1 T1 o1 TB1 off1:Nat}{cs1:List LV}{l1:LV}{t2:Nat}{l2:LV}(h:fn.results=#[.cell t0 T0,.cell t1 T1,.tmp t2])(f0:dO P T0 sz0)(f1:dP P T1){m k:Nat}{Hi Ho:List (Nat×LO)}(hA:∀o,B.cx.A o↔o<m)(hmd:B.md=cf B.cx (hp Hi))
 (h0:en E t0=some (true,.ptr o0 0):=by rfl)(b0:hp L o0=some (.box TB0 cs0):=by rfl)(c0:cs0.length=sz0:=by rfl)(h1:en E t1=some (true,.ptr o1 off1):=by rfl)(b1:hp L o1=some (.box TB1 cs1):=by rfl)(c1:cs1[off1]?=some l1:=by rfl)(h2:en E t2=some (true,l2):=by rfl)(hn:m+k≤n:=by first|omega|decide)
 (hK:KeepL (hp L) Ho:=by repeat (first|exact trivial|refine⟨rfl,?_⟩))
 (hol:(Ho.all fun p=>decide (p.1<m+k)&&p.2.lt (m+k))=true:=by first|rfl|simp[LO.lt,an,LV.lt,aq])(hout:LV.lt (m+k) (.tup [.agg cs0,l1,l2])=true:=by first|rfl|simp[an,LV.lt,aq]){e:Exit}(he:e= .normal∨e= .ret:=by first|exact .inr rfl|exact .inl rfl):
 ∀cx a w,Rel B N [] (st E L n) cx a w→FnPost P fn B m (.tup [.agg cs0,l1,l2]) Hi Ho k e a w:=
 dW (Ep h f0 f1 h0 b0 c0 h1 b1 c1 h2) hA hmd hn hK hol hout he
theorem lS{fn:Func}(h:fn.results=#[]){m k:Nat}{Hi Ho:List (Nat×LO)}(hA:∀o,B.cx.A o↔o<m)(hmd:B.md=cf B.cx (hp Hi))(hn:m+k≤n:=by first|omega|decide)
 (hK:KeepL (hp L) Ho:=by repeat (first|exact trivial|refine⟨rfl,?_⟩))
 (hol:(Ho.all fun p=>decide (p.1<m+k)&&p.2.lt (m+k))=true:=by first|rfl|simp[LO.lt,an,LV.lt]){e:Exit}(he:e= .normal∨e= .ret:=by first|exact .inr rfl|exact .inl rfl):
 ∀cx a w,Rel B N [] (st E L n) cx a w→FnPost P fn B m (.tup []) Hi Ho k e a w:=by
 intro cx a w hr;refine lJ hA hmd hn (fun o x hx=>hK.get hx) hol rfl he hr (v:= .tuple #[]) ?_ ?_;simp[results,h];simp only[V,Vs];exact⟨[],rfl,rfl⟩
end
end Go.Proofs.YtgkhfpfjokagfaaGreatDoor
namespace Go.Proofs.YtgkhfpfjokagfaaGreatDoor
theorem j5(ys:List (List SV)):(ys.map (List.map LV.sv)).flatten=ys.flatten.map LV.sv:=by rw[List.map_flatten]
theorem ObjOk.rs_row{cx:Cx}{w:World}{o T sz:Nat}{ys:List (List SV)}(h:ObjOk cx w o (.rs T sz ys)):ObjOk cx w o (.row T sz (ys.map (List.map LV.sv))):=by
 obtain⟨h1,vs,h2,h3,h4⟩:=h;refine⟨fun e he=>?_,vs,by simpa using h2,by rw[j5];exact h3,h4⟩;obtain⟨e',he',rfl⟩:=List.mem_map.1 he;simpa using h1 e' he'
theorem e7{cx:Cx}{w:World}{o T sz:Nat}{ys:List (List SV)}(h:ObjOk cx w o (.row T sz (ys.map (List.map LV.sv)))):ObjOk cx w o (.rs T sz ys):=by
 obtain⟨h1,vs,h2,h3,h4⟩:=h;refine⟨fun e he=>?_,vs,by simpa using h2,by rw[←j5];exact h3,h4⟩;have:=h1 _ (List.mem_map.2 ⟨e,he,rfl⟩);simpa using this
def fS(o:Nat)(y:LO)(H:Hp):Hp:=fun q=>if q=o then some y else H q
theorem HOk.tell{md:Nat→Prop}{n0:Nat}{cx:Cx}{H:Hp}{w:World}{o:Nat}{x y:LO}(h:HOk md n0 cx H w)(ho:H o=some x)(hy:ObjOk cx w o x→ObjOk cx w o y)(hxy:y.isBx=x.isBx:=by rfl):HOk md n0 cx (fS o y H) w:=by
 have get:∀q z,fS o y H q=some z→∃z',H q=some z'∧(q=o→z=y∧z'=x)∧(q≠o→z=z'):=by
  intro q z hz;unfold fS at hz;split at hz;rename_i hq;subst hq;cases hz;exact⟨x,ho,fun _=>⟨rfl,rfl⟩,fun hn=>absurd rfl hn⟩
  rename_i hq;exact⟨z,hz,fun he=>absurd he hq,fun _=>rfl⟩
 have hs:∀q z z' b,(q=o→z=y∧z'=x)∧(q≠o→z=z')→cx.has q z b→cx.has q z' b:=by
  intro q z z' b h1 hb;by_cases hq:q=o;obtain⟨rfl,rfl⟩:=h1.1 hq;unfold Cx.has at hb⊢;rw[←hxy];exact hb;rw[←h1.2 hq];exact hb
 refine⟨fun q z hz=>?_,fun q z b hz hb=>?_,fun q q' z z' b hne hz hz' hb hb'=>?_,h.lim⟩;obtain⟨z',h1,h2,h3⟩:=get q z hz;obtain⟨k1,k2⟩:=h.ok q z' h1;refine⟨k1,?_⟩;by_cases hq:q=o;obtain⟨rfl,rfl⟩:=h2 hq;subst hq;exact hy k2;rw[h3 hq];exact k2;obtain⟨z',h1,h2⟩:=get q z hz;exact h.own q z' b h1 (hs q z z' b h2 hb);obtain⟨z1,h1,k1⟩:=get q z hz;obtain⟨z2,h2,k2⟩:=get q' z' hz';exact h.inj q q' z1 z2 b hne h1 h2 (hs q z z1 b k1 hb) (hs q' z' z2 b k2 hb')
theorem Bo{o k:Nat}{x y:LO}(h:hp [(o,x)] k=some y):k=o∧y=x:=by
 simp only[hp,List.lookup_cons]at h;split at h;rename_i hh;simp at hh;cases h;exact⟨hh,rfl⟩
 simp at h
theorem uH{o:Nat}{x y:LO}:fS o y (hp [(o,x)])=hp [(o,y)]:=by
 funext k;unfold fS;by_cases h:k=o;subst h;simp;rw[if_neg h];have:(k==o)=false:=by simp[h]
 simp[hp,List.lookup_cons,this]
theorem vJ{cx:Cx}{o:Nat}{x:LO}(y:LO){b:Nat}(hxy:y.isBx=x.isBx)(h:cf cx (hp [(o,x)]) b):cf cx (hp [(o,y)]) b:=by
 obtain⟨k,z,hz,hb⟩:=h;obtain⟨rfl,rfl⟩:=Bo hz;refine⟨k,y,by simp,?_⟩;unfold Cx.has at hb⊢;rw[hxy];exact hb
theorem Db{cx:Cx}{o:Nat}{x y:LO}(hxy:y.isBx=x.isBx):cf cx (hp [(o,x)])=cf cx (hp [(o,y)]):=by
 funext b;exact propext ⟨vJ y hxy,vJ x hxy.symm⟩
theorem Tr.tell{cx cx':Cx}{w w':World}{o o':Nat}{x x' y y':LO}{new:Nat→Prop}(t:Tr cx w (hp [(o,x)]) cx' w' (hp [(o',y)]) new)(hy:ObjOk cx' w' o' y→ObjOk cx' w' o' y')
 (hxx:x'.isBx=x.isBx:=by rfl)(hyy:y'.isBx=y.isBx:=by rfl):Tr cx w (hp [(o,x')]) cx' w' (hp [(o',y')]) new:=by
 have h1:cf cx (hp [(o,x')])=cf cx (hp [(o,x)]):=Db hxx.symm;refine⟨t.le,t.A,by rw[h1];exact t.grow,?_,fun q hq hn=>t.inn q hq ?_⟩;rw[h1];have h2:=t.heap.tell (o:=o') (by simp) hy hyy;rw[uH]at h2;exact h2;simp only[hp,List.lookup_cons,List.lookup_nil]at hn⊢;cases hqo:(q==o)with
 |true=>rw[hqo]at hn;cases hn
 |false=>rfl
section
variable{P:Program}{r:Option Nat}{N:Nat}{D:List Nat}{B:bG}{Ψ:Exit→Act→World→Prop}{todo:List Item}
variable{E:List (Nat×bB)}{L:List (Nat×LO)}{n:Nat}
theorem iS(o:Nat)(y:LO)(L:List (Nat×LO)):hp ((o,y)::cI o L)=fS o y (hp L):=by
 funext k;unfold fS;by_cases h:k=o;subst h;simp;rw[if_neg h];have h2:(k==o)=false:=by simp[h]
 simp only[hp,List.lookup_cons,h2,cI];rw[fA (fun k=>!(k==o))];simp[h2]
theorem kf(o:Nat)(L:List (Nat×LO)):hp (cI o L)=fun k=>if k=o then none else hp L k:=by
 funext k;simp only[cI,hp];rw[fA (fun k=>!(k==o))];by_cases h:k=o<;>simp[h]
theorem o9(o:Nat)(L:List (Nat×LO))(k:Nat):hp (cI o L) k=if k=o then none else hp L k:=congrFun (kf o L) k
theorem LGo.tell(o:Nat){x:LO}(y:LO)(hb:hp L o=some x)(hy:∀cx w,ObjOk cx w o x→ObjOk cx w o y)(h:LGo P r N D B Ψ todo (st E ((o,y)::cI o L) n))(hxy:y.isBx=x.isBx:=by rfl):LGo P r N D B Ψ todo (st E L n):=by
 refine LGo.conv (S':=st E ((o,y)::cI o L) n) (fun cx a w hr=>⟨cx,hr.grow,hr.le,hr.hA,?_,hr.size,hr.env,hr.df,hr.dA⟩) h;show HOk _ _ cx (hp ((o,y)::cI o L)) w;rw[iS];exact hr.heap.tell hb (hy cx w) hxy
theorem bZ(t T sz:Nat)(ht:en E t=some (true,.v (.slice none 0 0)):=by rfl)
 (h:LGo P r N D B Ψ todo (st ((t,(true,.ref n))::E) ((n,.rs T sz [])::L) (n+1))):LGo P r N D B Ψ todo (st E L n):=by
 refine qY t T sz ht (LGo.tell n (.rs T sz []) (x:= .row T sz []) (by simp) (fun cx w hx=>e7 (by simpa using hx)) ?_);have e:st ((t,(true,LV.ref n))::E) ((n,LO.rs T sz [])::cI n ((n,.row T sz [])::L)) (n+1)=st ((t,(true,.ref n))::E) ((n,.rs T sz [])::L) (n+1):=by
  simp only[st];congr 1;rw[iS];funext k;unfold fS;by_cases hk:k=n;subst hk;simp;have h2:(k==n)=false:=by simp[hk]
  simp[hp,List.lookup_cons,h2,hk]
 rw[e];exact h
theorem Rel.tell(o:Nat){x:LO}(y:LO)(hb:hp L o=some x)(hy:∀cx w,ObjOk cx w o x→ObjOk cx w o y){cx:Cx}{a:Act}{w:World}(hr:Rel B N D (st E L n) cx a w)(hxy:y.isBx=x.isBx:=by rfl):Rel B N D (st E ((o,y)::cI o L) n) cx a w:=by
 refine⟨hr.grow,hr.le,hr.hA,?_,hr.size,hr.env,hr.df,hr.dA⟩;show HOk _ _ cx (hp ((o,y)::cI o L)) w;rw[iS];exact hr.heap.tell hb (hy cx w) hxy
theorem RelTo.frz(o:Nat){T sz:Nat}{ys:List (List SV)}{Q:Act→World→Prop}(hb:hp L o=some (.rs T sz ys):=by rfl)
 (h:∀cx a w,Rel B N D (st (kE o (.sl sz ys) E) (cI o L) n) cx a w→Q a w):∀cx a w,Rel B N D (st E L n) cx a w→Q a w:=by
 intro cx a w hr;have e:st (kE o (.sl sz ys) E) (cI o ((o,LO.row T sz (ys.map (List.map LV.sv)))::cI o L)) n=st (kE o (.sl sz ys) E) (cI o L) n:=by
  simp only[st];congr 1;rw[kf,kf,iS];funext k;unfold fS;by_cases hk:k=o<;>simp[hk]
 obtain⟨cx',hr'⟩:=Rel.freeze o (T:=T) (sz:=sz) (xs:=ys.map (List.map LV.sv)) (ys:=ys) (by simp) rfl (hr.tell o (.row T sz (ys.map (List.map LV.sv))) hb (fun cx w hx=>hx.rs_row));rw[e]at hr';exact h cx' a w hr'
theorem LGo.frz(o:Nat){T sz:Nat}{ys:List (List SV)}(hb:hp L o=some (.rs T sz ys):=by rfl)
 (h:LGo P r N D B Ψ todo (st (kE o (.sl sz ys) E) (cI o L) n)):LGo P r N D B Ψ todo (st E L n):=by
 refine LGo.tell o (.row T sz (ys.map (List.map LV.sv))) hb (fun cx w hx=>hx.rs_row) (LGo.freeze o (T:=T) (sz:=sz) (xs:=ys.map (List.map LV.sv)) (ys:=ys) (by simp) rfl ?_);have e:st (kE o (.sl sz ys) E) (cI o ((o,LO.row T sz (ys.map (List.map LV.sv)))::cI o L)) n=st (kE o (.sl sz ys) E) (cI o L) n:=by
  simp only[st];congr 1;rw[kf,kf,iS];funext k;unfold fS;by_cases hk:k=o<;>simp[hk]
 rw[e];exact h
theorem ay{σ:Type}(Q:σ→Prop)(EE:σ→List (Nat×bB))(LL:σ→List (Nat×LO))(μ:σ→Nat)(x0:σ)(Er:List (Nat×bB))(h0:Q x0)
 (hE:KeepE (en E) (EE x0))(hEr:KeepE (en E) Er)(hL:KeepL (hp L) (LL x0))
 (round:∀x,Q x→(∀y,Q y→μ y<μ x→LGo P r N D B Ψ todo (st (EE y++Er) (LL y) n))→LGo P r N D B Ψ todo (st (EE x++Er) (LL x) n)):
 LGo P r N D B Ψ todo (st E L n):=by
 have happ:∀(l l':List (Nat×bB)),KeepE (en E) l→KeepE (en E) l'→KeepE (en E) (l++l'):=by
  intro l;induction l with
  |nil=>intro l' _ h;exact h
  |cons p l ih=>intro l' h h';exact⟨h.1,ih l' h.2 h'⟩
 exact LGo.keep (EE x0++Er) (LL x0) (happ _ _ hE hEr) hL (gq Q (fun x=>EE x++Er) LL (fun _=>n) μ x0 h0 round)
end
theorem SrcOk.rs{P:Program}{tx e' sz T o:Nat}{ys:List (List SV)}(hk:P.underlying tx=some (.slice e'))(hs:∀e∈ys,e.length=sz):SrcOk P tx sz (.ref o) [(o,.rs T sz ys)] (ys.map (List.map LV.sv)):=by
 have h:=SrcOk.row (P:=P) (T:=T) (o:=o) (ys:=ys.map (List.map LV.sv)) hk (sz:=sz) (fun e he=>by
  obtain⟨e1,he1,rfl⟩:=List.mem_map.1 he;simpa using hs e1 he1)
 refine⟨h.1,fun md n0 cx H w v hok hrd hv=>?_⟩;have ho:=hrd o (.rs T sz ys) (by simp);refine h.2 md n0 cx (fS o (.row T sz (ys.map (List.map LV.sv))) H) w v (hok.tell ho ObjOk.rs_row) (fun k x hk'=>?_) hv;obtain⟨rfl,rfl⟩:=Bo hk';simp[fS]
abbrev LV.t(l:List UInt8):LV:= .sv (.val (.string ⟨l.toArray⟩))
theorem jd{P:Program}{tx:Nat}{l:List UInt8}(hk:P.underlying tx=some .string):SrcOk P tx 1 (.t l) [] ((aL l).map (List.map LV.sv)):=by
 have:=SrcOk.str (P:=P) (s:=⟨l.toArray⟩) hk;rw[Ao];simpa using this
section
variable{P:Program}{r:Option Nat}{N:Nat}{D:List Nat}{B:bG}{all:Array Oper}{K:List (Nat×Ct)→St→Prop}
variable{i:Nat}{ops:List Oper}{tr:List (Nat×Ct)}{E:List (Nat×bB)}{L:List (Nat×LO)}{n:Nat}{g:Bool}{gn:List (Nat×bB)}
variable{d ty:Nat}{pos:String}{aft:Array Edge}{gd:Option (Nat×Bool)}
theorem aO{t tx e sz:Nat}(hF:AppF P t e sz){x y:Operand}{o:Nat}{xs ys:List (List SV)}{lv:LV}{rd:List (Nat×LO)}
 (ho:all[i]?=some ⟨some d,.call {callee:= .builtin .append,args:=#[x,y],argTypes:=#[t,tx]},ty,pos,aft,none⟩:=by rfl)
 (hx:aP (en E) x=some (true,.ref o):=by rfl)(hy:aP (en E) y=some (true,lv):=by rfl)(hb:hp L o=some (.rs e sz xs):=by rfl)
 (hs:SrcOk P tx sz lv rd (ys.map (List.map LV.sv)))(hrd:∀k x,hp rd k=some x→hp L k=some x:=by first|exact jC|exact jB rfl)(h0:0<sz:=by decide)(hlen:(xs.length+ys.length)*sz≤4398046511104)
 (h:Reg P r N D B all (i+1) ops ((i,⟨bA [x,y] [(true,.ref o),(true,lv)],some d,(true,.ref n),rd,[(o,.rs e sz xs)],[(n,.rs e sz (xs++ys))],[n]⟩)::tr) (st ((d,(true,.ref n))::E) ((n,.rs e sz (xs++ys))::cI o L) (n+1)) K):
 Reg P r N D B all i (⟨some d,.call {callee:= .builtin .append,args:=#[x,y],argTypes:=#[t,tx]},ty,pos,aft,none⟩::ops) tr (st E L n) K:=by
 refine gM (m:=1) (es:=[(true,.ref o),(true,lv)]) (rd:=rd) (Hi:=[(o,.rs e sz xs)]) (Ho:=[(n,.rs e sz (xs++ys))]) (out:= .ref n) ho gN ⟨_,_,rfl,hx,_,_,rfl,hy,rfl⟩ hrd (jB hb) ?_ ?_;refine bO (by simp) (by simp) fun md n0 cx H ρ w hok hrd' hHi hnew hv=>?_;have hop:(Oper.mk (some d) (.call {callee:= .builtin .append,args:=#[x,y],argTypes:=#[t,tx]}) ty pos aft none).op.operands.toList=[x,y]:=rfl;rw[hop]at hv;obtain⟨v1,v2⟩:=Vs.two hv;simp only[bD]at v1 v2;obtain⟨news,hsrc,hnv⟩:=hs.2 md n0 cx H w _ hok hrd' v2;simp only[V]at v1;have hob:=hHi o (.rs e sz xs) (by simp);obtain⟨v,w',cx',h1,h2,h3⟩:=lu (o':=n) (xs:=xs.map (List.map LV.sv)) (ys:=ys.map (List.map LV.sv)) hF h0 (hok.tell hob ObjOk.rs_row) (o:=o) (by simp[fS]) (hnew n (by simp)) hsrc hs.1 hnv (by simpa using hlen) ty;refine⟨_,v,w',cx',?_,.inl rfl,h2.tell (fun hx=>e7 (by simpa using hx)),h3⟩;have hx':ρ x=cx.loc o:=v1.2.1;simp[execOp,resolve,invoke,builtin,hx',h1];have e1:st (fL (some d) (true,.ref n) E) (jA L [(o,.rs e sz xs)] [(n,.rs e sz (xs++ys))]) (n+1)=st ((d,(true,.ref n))::E) ((n,.rs e sz (xs++ys))::cI o L) (n+1):=by
  simp only[st,uE,fL]
 rw[e1];exact h
theorem eX{T:Nat}(hF:db P T){x:Operand}{gx:Bool}{o e sz:Nat}{xs:List (List SV)}
 (ho:all[i]?=some ⟨some d,.call {callee:= .builtin .len,args:=#[x],argTypes:=#[T]},ty,pos,aft,gd⟩:=by rfl)(hg:GuardOk (en E) all gd g gn:=by first|exact gN|exact gS rfl rfl)
 (hx:aP (en E) x=some (gx,.ref o):=by rfl)(hgx:g=true→gx=true:=by first|exact fun _=>rfl|exact id)(hb:hp L o=some (.rs e sz xs):=by rfl)
 (h:Reg P r N D B all (i+1) ops ((i,bK gn [x] [(gx,.ref o)] (some d) (g,.i xs.length) [(o,.rs e sz xs)])::tr) (st ((d,(g,.i xs.length))::E) L n) K):
 Reg P r N D B all i (⟨some d,.call {callee:= .builtin .len,args:=#[x],argTypes:=#[T]},ty,pos,aft,gd⟩::ops) tr (st E L n) K:=
 Reg.one rfl (fun h=>by
  rw[aE h hgx];refine bm (x:=x) rfl (by simp) fun md n0 cx H ρ w hok hrd hvv=>?_;have hv:=hvv;obtain⟨el,hT⟩:=hF;simp only[V]at hv;obtain⟨_,hv1,_⟩:=hv;obtain⟨_,_,vs,hown,_⟩:=hok.ok o _ (hrd o (.rs e sz xs) (by simp));refine⟨.int .i64 xs.length,?_,aZ⟩;rcases hown.2 with⟨e1,e2⟩|⟨gb,cap,cur,e1,_⟩
  rw[e1]at hv1;simp[execOp,resolve,invoke,builtin,Builtin.len_,hv1,hT w,goInt,e2];rw[e1]at hv1;simp[execOp,resolve,invoke,builtin,Builtin.len_,hv1,hT w,goInt]) ho hg hx (jB hb) h
theorem ec{T sz:Nat}(hF:IndexF P T sz){x y:Operand}{gx gy:Bool}{o e:Nat}{xs:List (List SV)}{k:IntKind}{j:Int}
 (ho:all[i]?=some ⟨some d,.indexAddr T x y,ty,pos,aft,gd⟩:=by rfl)(hg:GuardOk (en E) all gd g gn:=by first|exact gN|exact gS rfl rfl)
 (hx:aP (en E) x=some (gx,.ref o):=by rfl)(hy:aP (en E) y=some (gy,.v (.int k j)):=by rfl)
 (hgx:g=true→gx=true:=by first|exact fun _=>rfl|exact id)(hgy:g=true→gy=true:=by first|exact fun _=>rfl|exact id)(hb:hp L o=some (.rs e sz xs):=by rfl)
 (hj:g=true→0≤j∧j<xs.length)
 (h:Reg P r N D B all (i+1) ops ((i,bK gn [x,y] [(gx,.ref o),(gy,.v (.int k j))] (some d) (g,.ptr o (j.toNat*sz)) [(o,.rs e sz xs)])::tr) (st ((d,(g,.ptr o (j.toNat*sz)))::E) L n) K):
 Reg P r N D B all i (⟨some d,.indexAddr T x y,ty,pos,aft,gd⟩::ops) tr (st E L n) K:=
 Reg.two rfl (fun h=>by
  rw[aE h hgx,aE h hgy];refine bj (x:=x) (y:=y) rfl (by simp) fun md n0 cx H ρ w hok hrd v1 v2=>?_;obtain⟨h0,hlt⟩:=hj h;simp only[V]at v1;obtain⟨hA,hv1,_⟩:=v1;obtain⟨_,_,vs,hown,_⟩:=hok.ok o _ (hrd o (.rs e sz xs) (by simp));rcases hown.2 with⟨e1,e2⟩|⟨gb,cap,cur,e1,_⟩
  omega;rw[e1]at hv1;refine⟨.pointer (some ⟨gb,0+j.toNat*sz,none⟩),by simp only[execOp,hv1,v2.val];simp[hF gb 0 xs.length cap k j w h0 hlt],?_⟩;simp only[V];exact⟨hA,gb,by rw[e1];rfl,by rw[Nat.zero_add]⟩) ho hg hx hy (jB hb) h
theorem El{cx:Cx}{w:World}{o e sz:Nat}{xs:List (List SV)}(h:ObjOk cx w o (.rs e sz xs)){j f:Nat}{x:List SV}{c:SV}(hj:xs[j]?=some x)(hf:x[f]?=some c):
 ∃b v,bk (cx.loc o)=some b∧w.cell? ⟨b,j*sz+f,none⟩=some v∧VS cx.pr w c v:=by
 obtain⟨hsz,vs,hown,hvs,_⟩:=h;have hjl:=(List.getElem?_eq_some_iff.1 hj).1;have hxl:x.length=sz:=hsz x (List.mem_of_getElem? hj);have hfl:f<sz:=by rw[←hxl];exact(List.getElem?_eq_some_iff.1 hf).1
 have hfla:∀(xs:List (List SV)) (j:Nat),(∀e∈xs,e.length=sz)→xs[j]?=some x→xs.flatten[j*sz+f]?=some c:=by
  intro xs;induction xs with
  |nil=>intro j _ h;simp at h
  |cons y xs ih=>
   intro j hs h;have hyl:=hs y (by simp);cases j with
   |zero=>
    simp at h;subst h;rw[Nat.zero_mul,Nat.zero_add,List.flatten_cons,List.getElem?_append_left (by omega)];exact hf
   |succ j=>
    have:=ih j (fun e he=>hs e (by simp[he])) (by simpa using h);rw[List.flatten_cons,List.getElem?_append_right (by rw[hyl,Nat.succ_mul];omega),hyl,show(j+1)*sz+f-sz=j*sz+f from by rw[Nat.succ_mul];omega];exact this
 have hflat:=hfla xs j hsz hj;have hc:(xs.flatten.map LV.sv)[j*sz+f]?=some (.sv c):=by rw[List.getElem?_map,hflat];rfl
 obtain⟨v,hv,hV⟩:=hvs.get hc;rcases hown.2 with⟨e1,e2⟩|⟨gb,cap,cur,e1,_,e2,e3,e4,e5,e6⟩
 omega;refine⟨gb,v,by rw[e1];rfl,?_,by simpa[V]using hV⟩;rw[←e6,List.getElem?_take]at hv;split at hv;simp[World.cell?,e2];simpa using hv;cases hv
theorem kB{T:Nat}(hF:dP P T){x:Operand}{gx:Bool}{o off e sz:Nat}{xs:List (List SV)}{ev:List SV}{c:SV}(j f:Nat)
 (ho:all[i]?=some ⟨some d,.load T x,ty,pos,aft,gd⟩:=by rfl)(hg:GuardOk (en E) all gd g gn:=by first|exact gN|exact gS rfl rfl)
 (hx:aP (en E) x=some (gx,.ptr o off):=by rfl)(hgx:g=true→gx=true:=by first|exact fun _=>rfl|exact id)(hb:hp L o=some (.rs e sz xs):=by rfl)
 (hj:g=true→xs[j]?=some ev∧ev[f]?=some c)(hoff:off=j*sz+f:=by omega)
 (h:Reg P r N D B all (i+1) ops ((i,bK gn [x] [(gx,.ptr o off)] (some d) (g,.sv c) [(o,.rs e sz xs)])::tr) (st ((d,(g,.sv c))::E) L n) K):
 Reg P r N D B all i (⟨some d,.load T x,ty,pos,aft,gd⟩::ops) tr (st E L n) K:=
 Reg.one rfl (fun h=>by
  rw[aE h hgx];refine bm (x:=x) rfl (by simp) fun md n0 cx H ρ w hok hrd hvv=>?_;obtain⟨h1,h2⟩:=hj h;simp only[V]at hvv;obtain⟨hA,b,hbk,he⟩:=hvv;obtain⟨b',v,k1,k2,k3⟩:=El (hok.ok o _ (hrd o (.rs e sz xs) (by simp))).2 h1 h2;rw[k1]at hbk;cases hbk
  refine⟨v,?_,by simpa only[V]using k3⟩;rw[←hoff]at k2;simp[execOp,he,Instr.loadAt,Instr.sureAddr,loadVar,hF.1 w,k2]) ho hg hx (jB hb) h
end
end Go.Proofs.YtgkhfpfjokagfaaGreatDoor
namespace Go.Proofs.YtgkhfpfjokagfaaGreatDoor
mutual
def LV.plain:LV→Bool
 |.sv (.val _)=>true
 |.agg cs=>iA cs
 |.tup cs=>iA cs
 |_=>false
def iA:List LV→Bool
 |[]=>true
 |c::cs=>c.plain&&iA cs
end
mutual
theorem V.plain{cx cx':Cx}{w w':World}:∀(l:LV) (x:Value),l.plain=true→V cx w l x→V cx' w' l x
 |.sv (.val v),x,_,h=>by simpa only[V,VS]using h
 |.sv (.sl _ _),x,hp,_=>by simp[LV.plain]at hp
 |.sv (.at_ _),x,hp,_=>by simp[LV.plain]at hp
 |.agg cs,x,hp,h=>by simp only[V]at h⊢;obtain⟨vs,h1,h2⟩:=h;exact⟨vs,h1,Vs.plain cs vs (by simpa[LV.plain]using hp) h2⟩
 |.tup cs,x,hp,h=>by simp only[V]at h⊢;obtain⟨vs,h1,h2⟩:=h;exact⟨vs,h1,Vs.plain cs vs (by simpa[LV.plain]using hp) h2⟩
 |.ptr _ _,x,hp,_=>by simp[LV.plain]at hp
 |.ref _,x,hp,_=>by simp[LV.plain]at hp
 |.fn _ _ _,x,hp,_=>by simp[LV.plain]at hp
 |.yld _,x,hp,_=>by simp[LV.plain]at hp
 |.sub _ _ _ _,x,hp,_=>by simp[LV.plain]at hp
 |.pv _,x,hp,_=>by simp[LV.plain]at hp
theorem Vs.plain{cx cx':Cx}{w w':World}:∀(l:List LV) (x:List Value),iA l=true→Vs cx w l x→Vs cx' w' l x
 |[],x,_,h=>by simpa[Vs]using h
 |c::cs,x,hp,h=>by
  simp only[Vs]at h⊢;simp only[iA,Bool.and_eq_true]at hp;obtain⟨y,r,h1,h2,h3⟩:=h;exact⟨y,r,h1,V.plain c y hp.1 h2,Vs.plain cs r hp.2 h3⟩
end
def ck:List LV→Option (List SV)
 |[]=>some []
 |.sv s::r=>match s,ck r with
  |.val v,some l=>if v.oneCell'=true then some (.val v::l)else none
  |s,some l=>some (s::l)
  |_,none=>none
 |_=>none
def oM(rd:List (Nat×LO)):LV→LV
 |.ref o=>match rd.lookup o with
  |some (.rs _ sz ys)=>.sv (.sl sz ys)
  |_=>.ref o
 |.sub o off len cap=>match rd.lookup o with
  |some (.box _ cs)=>match ck cs with
   |some ss=>if off+len≤ss.length∧len≤cap∧cap≤maxLen then .sv (.sl 1 (((ss.drop off).take len).map fun s=>[s]))else .sub o off len cap
   |none=>.sub o off len cap
  |_=>.sub o off len cap
 |l=>l
theorem jh:∀{cs:List LV} {ss:List SV},ck cs=some ss→cs=ss.map LV.sv∧cs.all LV.one=true
 |[],ss,h=>by simp only[ck,Option.some.injEq]at h;subst h;exact⟨rfl,rfl⟩
 |.sv s::r,ss,h=>by
  cases hc:ck r with
  |none=>cases s<;>simp[ck,hc]at h
  |some l=>
   obtain⟨h1,h2⟩:=jh hc;cases s with
   |val v=>
    simp only[ck,hc]at h;split at h;rename_i hv;simp only[Option.some.injEq]at h;subst h;exact⟨by rw[List.map_cons,←h1],by simp only[List.all_cons,h2,Bool.and_true];exact hv⟩;cases h
   |sl sz xs=>
    simp only[ck,hc,Option.some.injEq]at h;subst h;exact⟨by rw[List.map_cons,←h1],by simp only[List.all_cons,h2,Bool.and_true];rfl⟩
   |at_ c=>
    simp only[ck,hc,Option.some.injEq]at h;subst h;exact⟨by rw[List.map_cons,←h1],by simp only[List.all_cons,h2,Bool.and_true];rfl⟩
 |.agg _::_,_,h=>by simp[ck]at h
 |.tup _::_,_,h=>by simp[ck]at h
 |.ptr _ _::_,_,h=>by simp[ck]at h
 |.ref _::_,_,h=>by simp[ck]at h
 |.fn _ _ _::_,_,h=>by simp[ck]at h
 |.yld _::_,_,h=>by simp[ck]at h
 |.sub _ _ _ _::_,_,h=>by simp[ck]at h
 |.pv _::_,_,h=>by simp[ck]at h
def cv(w:World)(b:Nat):Nat:=match w.heap[b]? with
 |some (.cells cur _ _)=>cur.size
 |_=>0
open Classical in
noncomputable def raise (cx:Cx) (w:World) (rd:List (Nat×LO)) (b:Nat):Nat:=if cf cx (hp rd) b then cv w b else cx.pr b
theorem V.see{md:Nat→Prop}{n0:Nat}{cx:Cx}{H:Hp}{w:World}{rd:List (Nat×LO)}(hok:HOk md n0 cx H w)(hrd:∀o x,hp rd o=some x→H o=some x)(hext:Ext cx.pr w (raise cx w rd) w):
 ∀(l:LV) (x:Value),V cx w l x→V ⟨raise cx w rd,cx.A,cx.loc,cx.inn⟩ w (oM rd l) x:=by
 intro l x h;have hm:V ⟨raise cx w rd,cx.A,cx.loc,cx.inn⟩ w l x:=V.mono (cx:=cx) (cx':=⟨raise cx w rd,cx.A,cx.loc,cx.inn⟩) (w:=w) (w':=w) (fun o ho=>⟨ho,rfl⟩) hext l x h;cases l with
 |ref o=>
  simp only[oM];split;rename_i T sz ys hl;have hH:=hrd o _ hl;obtain⟨hAo,hob⟩:=hok.ok o _ hH;obtain⟨hsz,vs,hown,hvs,hones⟩:=hob.rs_row;simp only[V]at h;obtain⟨_,rfl,_⟩:=h;simp only[V];refine qq hsz hown hvs hones rfl hext (fun b hb=>?_);have hbl:cf cx (hp rd) b:=⟨o,_,hl,.inl hb.symm⟩;rw[raise,if_pos hbl];rcases hown.2 with⟨e1,e2⟩|⟨gb,cap,cur,e1,_,e2,e3,e4,e5,e6⟩
  rw[e1]at hb;cases hb
  rw[e1]at hb;simp only[bk,Option.some.injEq]at hb;subst hb;simp only[cv,e2,e5];rw[List.length_map]at e3;exact Nat.mul_le_mul_right _ e3;exact hm
 |sub o off len cap=>
  simp only[oM];split;rename_i T cs hl;split;rename_i ss hss;split;rename_i hle;obtain⟨h1,h2⟩:=jh hss;have hH:=hrd o _ hl;obtain⟨hAo,b,vs,k1,k2,k3⟩:=hok.ok o _ hH;simp only[V]at h;obtain⟨_,b',hb',rfl⟩:=h;rw[k1]at hb';simp only[bk,Option.some.injEq]at hb';subst hb';have hbl:cf cx (hp rd) b:=⟨o,_,hl,.inl (by rw[k1];rfl)⟩;have hra:raise cx w rd b=vs.length:=by rw[raise,if_pos hbl,cv,k2];simp
  have hvl:vs.length=ss.length:=by rw[k3.length,h1,List.length_map]
  have hones:=Vs.ones h2 k3;have hcell:∀i (hi:i<ss.length),∃v,w.cell? ⟨b,i,none⟩=some v∧v.oneCell'=true∧VS (raise cx w rd) w ss[i] v:=by
   intro i hi;obtain⟨v,hv,hV⟩:=Vs.get k3 (i:=i) (c:= .sv ss[i]) (by rw[h1];simp[hi]);refine⟨v,by simp[World.cell?,k2,hv],hones v (List.mem_of_getElem? hv),?_⟩;simp only[V]at hV;exact VS.mono hext _ _ hV
  have hln:((ss.drop off).take len).length=len:=by rw[List.length_take,List.length_drop];omega
  simp only[V,VS];refine .inr ⟨b,off,cap,by rw[List.length_map,hln],by rw[List.length_map,hln];exact hle.2.1,hle.2.2,by rw[List.length_map,hln,hra,hvl];omega,?_⟩;have gen:∀(m:List SV) (k:Nat),(∀i (hi:i<m.length),∃v,w.cell? ⟨b,k+i,none⟩=some v∧v.oneCell'=true∧VS (raise cx w rd) w m[i] v)→VSR (raise cx w rd) w b k 1 (m.map fun s=>[s]):=by
   intro m;induction m with
   |nil=>intro k _;simp[VSR]
   |cons a m ih=>
    intro k hk;simp only[List.map_cons,VSR,VSC];refine⟨rfl,⟨?_,trivial⟩,ih (k+1) fun i hi=>?_⟩;obtain⟨v,c1,c2,c3⟩:=hk 0 (by simp);exact⟨v,c1,c2,c3⟩;have:=hk (i+1) (by simp;omega);rw[show k+(i+1)=k+1+i from by omega]at this;exact this
  refine gen _ off fun i hi=>?_;rw[hln]at hi;have:=hcell (off+i) (by omega);simpa using this;exact hm;exact hm;exact hm
 |_=>exact hm
theorem Vs.see{md:Nat→Prop}{n0:Nat}{cx:Cx}{H:Hp}{w:World}{rd:List (Nat×LO)}(hok:HOk md n0 cx H w)(hrd:∀o x,hp rd o=some x→H o=some x)(hext:Ext cx.pr w (raise cx w rd) w):
 ∀(l:List LV) (x:List Value),Vs cx w l x→Vs ⟨raise cx w rd,cx.A,cx.loc,cx.inn⟩ w (l.map (oM rd)) x
 |[],x,h=>by simpa[Vs]using h
 |c::cs,x,h=>by
  simp only[Vs,List.map_cons]at h⊢;obtain⟨y,r,h1,h2,h3⟩:=h;exact⟨y,r,h1,V.see hok hrd hext c y h2,Vs.see hok hrd hext cs r h3⟩
theorem Vs.vals{cx:Cx}{w:World}:∀(cs vs:List Value),Vs cx w (cs.map LV.v) vs→vs=cs
 |[],vs,h=>by simpa[Vs]using h
 |c::cs,vs,h=>by
  simp only[List.map_cons,Vs]at h;obtain⟨y,rest,rfl,k1,k2⟩:=h;rw[k1.val,Vs.vals cs rest k2]
theorem wU{cx:Cx}{w:World}{cs:List Value}{l:List LV}{z:Value}(hl:l=cs.map LV.v)(h:V cx w (.agg l) z):z= .agg cs.toArray:=by
 subst hl;simp only[V]at h;obtain⟨vs,rfl,h2⟩:=h;rw[Vs.vals cs vs h2]
section
variable{P:Program}{r:Option Nat}{N:Nat}{D:List Nat}{B:bG}{all:Array Oper}{K:List (Nat×Ct)→St→Prop}
variable{i:Nat}{ops:List Oper}{tr:List (Nat×Ct)}{E:List (Nat×bB)}{L:List (Nat×LO)}{n:Nat}{g:Bool}{gn:List (Nat×bB)}
variable{d ty:Nat}{pos:String}{aft:Array Edge}{gd:Option (Nat×Bool)}
theorem Fs{f:FuncId}{args:Array Operand}{ats:Array TypeId}{es:List bB}{rd:List (Nat×LO)}{lvs:List LV}{out:LV}(hc:g=true→PC P f lvs out)
 (hrd:∀k x,hp rd k=some x→hp L k=some x)(hplain:out.plain=true:=by rfl)
 (ho:all[i]?=some ⟨some d,.call {callee:= .value (.func f),args:=args,argTypes:=ats},ty,pos,aft,gd⟩:=by rfl)(hg:GuardOk (en E) all gd g gn:=by first|exact gN|exact gS rfl rfl)
 (hx:args.toList.map (aP (en E))=es.map some:=by rfl)(hes:g=true→(es.map bD).map (oM rd)=lvs:=by first|exact fun _=>rfl|(intro h;simp[bD,oM,h]))
 (h:Reg P r N D B all (i+1) ops ((i,bK gn (.func f::args.toList) ((true,.fn (.func f) [] [])::es) (some d) (g,out) rd)::tr) (st ((d,(g,out))::E) L n) K):
 Reg P r N D B all i (⟨some d,.call {callee:= .value (.func f),args:=args,argTypes:=ats},ty,pos,aft,gd⟩::ops) tr (st E L n) K:=by
 have hl:(Oper.mk (some d) (.call {callee:= .value (.func f),args:=args,argTypes:=ats}) ty pos aft gd).op.operands.toList= .func f::args.toList:=by simp[Op.operands,Go.Call.operands]
 refine dF (es:=(true,.fn (.func f) [] [])::es) (rd:=rd) (out:=out) ho hg ?_ hrd (fun hgt=>?_) ?_;rw[hl];exact⟨_,_,rfl,rfl,bw hx⟩;have h1:=(hc hgt).lc;refine⟨by simp,fun md n0 cx H a w K Q hok ham hrd hHi hnew hv hK=>?_⟩;rw[hl]at hv;simp only[List.map_cons,Vs]at hv;obtain⟨vf,rest,he,hvf,hva⟩:=hv;simp only[List.cons.injEq]at he;obtain⟨rfl,rfl⟩:=he;have hraise:∀b,cf cx (hp rd) b→cx.pr b=0∧b<w.heap.size:=fun b ⟨o,x,hx,hb⟩=>by
  have:=hok.own o x b (hrd o x hx) hb;exact⟨this.1,this.2.1⟩
 have hext:Ext cx.pr w (raise cx w rd) w:=fun b off hbo=>⟨by
  unfold raise;split;rename_i hh;have:=(hraise b hh).1;omega;exact hbo,rfl⟩
 have hva0:=Vs.see hok hrd hext _ _ hva;rw[hes hgt]at hva0
 let c1:Cx:=⟨raise cx w rd,fun o=>o<0,cx.loc,cx.inn⟩
 have hva1:Vs c1 w lvs (args.toList.map a.eval):=Vs.unren (cx1:=c1) (cx2:=⟨raise cx w rd,cx.A,cx.loc,cx.inn⟩) (σ:=id) (m:=0) rfl (fun o ho=>absurd ho (Nat.not_lt_zero o)) _ _ h1.args (by rw[cw _ _ h1.args];exact hva0);have hlim1:∀b,0<raise cx w rd b→b<w.heap.size:=fun b hb=>by
  unfold raise at hb;split at hb;rename_i hh;exact(hraise b hh).2;exact hok.lim b hb
 have hok1:HOk (fun _=>True) 0 c1 (hp []) w:=⟨fun o x hx=>by simp at hx,fun o x b hx=>by simp at hx,fun o o' x x' b _ hx=>by simp at hx,hlim1⟩;have hrun:=me (P:=P) h1.entr [] [] {callee:= .value (.func f),args:=args,argTypes:=ats} (.func f) rfl a.eval rfl ty w;refine⟨fun _ _=>trivial,?_⟩;rw[Oper.semAt_eq _ _ _ (by simp)];have:(execOp a.eval ⟨some d,.call {callee:= .value (.func f),args:=args,argTypes:=ats},ty,pos,aft,gd⟩).run P w= .ok (.enter f (args.toList.map a.eval).toArray) w:=by
  unfold execOp;simpa using hrun
 rw[this,Oper.uponIn_enter];refine⟨fun h=>by simp[FW,Fence.wide]at h,gF ((h1.go c1 w _ (fun o=>Iff.rfl) hok1 (ham.ext hext) hva1).mono ?_)⟩;rintro e w' ⟨v,c2,rfl,t,hvo⟩;have hno:∀b,¬cf c1 (hp []) b:=fun b ⟨o,x,hx,_⟩=>by simp at hx
 let pr3:Nat→Nat:=fun b=>if b<w.heap.size then cx.pr b else c2.pr b
 let c3:Cx:=⟨pr3,cx.A,cx.loc,cx.inn⟩
 have hp3:∀b,b<w.heap.size→pr3 b=cx.pr b:=fun b hb=>by show(if b<w.heap.size then _ else _)=_;rw[if_pos hb]
 refine hK c3 w' v ⟨fun o ho=>⟨ho,rfl⟩,fun o=>by simp[c3],⟨t.grow.os,t.grow.tape,t.grow.output,t.grow.size,fun b hb hn=>t.grow.same b hb (hno b),fun b hb hn=>hp3 b hb,fun b off hbo=>?_⟩,
  ⟨fun o x hx=>by simp at hx,fun o x b hx=>by simp at hx,fun o o' x x' b _ hx=>by simp at hx,fun b hb=>?_⟩,fun _ _ _=>rfl⟩ (V.plain _ _ hplain hvo)
 have hbs:=hok.lim b (by omega);refine⟨by show off<pr3 b;rw[hp3 b hbs];exact hbo,?_⟩;simp only[World.cell?,t.grow.same b hbs (hno b)];rcases Nat.lt_or_ge b w.heap.size with hlt|hge
 exact Nat.lt_of_lt_of_le hlt t.grow.size;have hb':0<pr3 b:=hb;simp only[pr3]at hb';rw[if_neg (by omega)]at hb';exact t.heap.lim b hb';rw[hl];exact h
theorem gA{op:BinOp}{t yt:Nat}{x y:Operand}{gx gy:Bool}{as0 bs:List Value}{ls ms:List LV}{v:Value}(hv:∀w,(do eqGuard op t x y (.agg as0.toArray) (.agg bs.toArray);binOp op t (.agg as0.toArray) (.agg bs.toArray):Sem Value).run P w= .ok v w)
 (ho:all[i]?=some ⟨some d,.binOp op t x y yt,ty,pos,aft,gd⟩:=by rfl)(hg:GuardOk (en E) all gd g gn:=by first|exact gN|exact gS rfl rfl)
 (hx:aP (en E) x=some (gx,.agg ls):=by rfl)(hy:aP (en E) y=some (gy,.agg ms):=by rfl)(hl:ls=as0.map LV.v:=by rfl)(hm:ms=bs.map LV.v:=by rfl)
 (hgx:g=true→gx=true:=by first|exact fun _=>rfl|exact id)(hgy:g=true→gy=true:=by first|exact fun _=>rfl|exact id)
 (h:Reg P r N D B all (i+1) ops ((i,bK gn [x,y] [(gx,.agg ls),(gy,.agg ms)] (some d) (g,.v v) [])::tr) (st ((d,(g,.v v))::E) L n) K):
 Reg P r N D B all i (⟨some d,.binOp op t x y yt,ty,pos,aft,gd⟩::ops) tr (st E L n) K:=
 Reg.two rfl (fun h=>by
  rw[aE h hgx,aE h hgy];refine bj (x:=x) (y:=y) rfl (by simp) fun md n0 cx H ρ w _ _ v1 v2=>?_;have e1:=wU hl v1;have e2:=wU hm v2;refine⟨v,?_,aZ⟩;have:=hv w;rw[←e1,←e2]at this;simp only[execOp];rw[Sem.run_bind,this];rfl) ho hg hx hy (by simp) h
end
end Go.Proofs.YtgkhfpfjokagfaaGreatDoor
namespace Go.Proofs.YtgkhfpfjokagfaaGreatDoor
theorem im(l:List UInt8):(⟨l.toArray⟩:ByteArray).size=l.length:=by simp[ByteArray.size]
theorem wj(l:List UInt8)(a b:Nat):(⟨l.toArray⟩:ByteArray).extract a b=⟨((l.take b).drop a).toArray⟩:=by
 apply ByteArray.ext;simp[ByteArray.data_extract,List.drop_take]
theorem xI(l m:List UInt8):(⟨l.toArray⟩:ByteArray)++⟨m.toArray⟩=⟨(l++m).toArray⟩:=by
 apply ByteArray.ext;simp[ByteArray.data_append]
theorem Bu(l m:List UInt8):decide ((⟨l.toArray⟩:ByteArray)=⟨m.toArray⟩)=decide (l=m):=by
 congr 1;simp[ByteArray.mk.injEq]
theorem Fh(l:List UInt8)(j:Nat)(c:UInt8)(h:l[j]?=some c):(⟨l.toArray⟩:ByteArray)[j]?=some c:=by
 have hlt:=(List.getElem?_eq_some_iff.1 h).1;have hsz:j<(⟨l.toArray⟩:ByteArray).size:=by rw[im];exact hlt
 have he:=(List.getElem?_eq_some_iff.1 h).2;simp only[getElem?,decidableGetElem?,hsz,dif_pos];exact congrArg some he
theorem l7(a b:List UInt8):((⟨a.toArray⟩:ByteArray).toList==(⟨b.toArray⟩:ByteArray).toList)=decide (a=b):=by
 rw[ByteArray.toList_eq,ByteArray.toList_eq];by_cases h:a=b;subst h;simp;simp[h]
theorem ym{P:Program}{t:Nat}{fs:Array Field}(hu:P.underlying t=some (.struct fs))(hp:P.stoodInHeld t=false)(hm:P.eqGuardType P.depth t=false){xs ys:Array Value}{b:Bool}
 (h:∀w,(Op.eqFields 9999 xs ys fs.toList).run P w= .ok b w)(x y:Operand):∀w,(do eqGuard .eql t x y (.agg xs) (.agg ys);binOp .eql t (.agg xs) (.agg ys):Sem Value).run P w= .ok (.bool b) w:=by
 intro w;have hf:P.fieldsOf t=fs:=by unfold Program.fieldsOf;rw[hu]
 have h1:(Op.equalIn 10000 t (.agg xs) (.agg ys)).run P w= .ok b w:=by
  have:=run_equalIn_agg (P:=P) w 9999 t xs ys (by rw[hf];exact hu) hp;rw[hf,h w]at this;exact this
 rw[Sem.run_bind,run_eqGuard_agg _ _ _ _ _ _ _ hm];simp only[Result.andThen_ok];rw[run_eql_struct,h1];rfl
theorem o3{P:Program}{t:Nat}{fs:Array Field}(hu:P.underlying t=some (.struct fs))(hp:P.stoodInHeld t=false)(hm:P.eqGuardType P.depth t=false){xs ys:Array Value}{b:Bool}
 (h:∀w,(Op.eqFields 9999 xs ys fs.toList).run P w= .ok b w)(x y:Operand):∀w,(do eqGuard .neq t x y (.agg xs) (.agg ys);binOp .neq t (.agg xs) (.agg ys):Sem Value).run P w= .ok (.bool (!b)) w:=by
 intro w;have hf:P.fieldsOf t=fs:=by unfold Program.fieldsOf;rw[hu]
 have h1:(Op.equalIn 10000 t (.agg xs) (.agg ys)).run P w= .ok b w:=by
  have:=run_equalIn_agg (P:=P) w 9999 t xs ys (by rw[hf];exact hu) hp;rw[hf,h w]at this;exact this
 rw[Sem.run_bind,run_eqGuard_agg _ _ _ _ _ _ _ hm];simp only[Result.andThen_ok];rw[run_neq_struct,h1];rfl
section
variable{P:Program}{r:Option Nat}{N:Nat}{D:List Nat}{B:bG}{Ψ:Exit→Act→World→Prop}{todo:List Item}
variable{E:List (Nat×bB)}{L:List (Nat×LO)}{n:Nat}
theorem BA(t:Nat){g:Bool}{lv:LV}(lv':LV)(ht:en E t=some (g,lv))(hv:∀cx w x,V cx w lv x→V cx w lv' x)(h:LGo P r N D B Ψ todo (st ((t,(g,lv'))::E) L n)):LGo P r N D B Ψ todo (st E L n):=by
 refine LGo.conv (S':=st ((t,(g,lv'))::E) L n) (fun cx a w hr=>⟨cx,hr.grow,hr.le,hr.hA,hr.heap,hr.size,fun s e he=>?_,hr.df,hr.dA⟩) h;simp only[st,en,List.lookup_cons]at he;split at he;rename_i hh;simp at hh;cases he
 subst hh;have:=hr.env s _ ht;exact⟨fun hg=>hv _ _ _ (this.1 hg),this.2⟩;exact hr.env s e he
theorem bP(t sz:Nat){g:Bool}(ht:en E t=some (g,.v (.slice none 0 0)):=by rfl)(h:LGo P r N D B Ψ todo (st ((t,(g,.sv (.sl sz [])))::E) L n)):LGo P r N D B Ψ todo (st E L n):=
 BA t _ ht (fun cx w x hx=>by simp only[V,VS]at hx⊢;exact .inl ⟨.inl hx,trivial⟩) h
end
def y7:LV→SV
 |.sv s=>s
 |_=>.val undef
section
variable{P:Program}{r:Option Nat}{N:Nat}{D:List Nat}{B:bG}{all:Array Oper}{K:List (Nat×Ct)→St→Prop}
variable{i:Nat}{ops:List Oper}{tr:List (Nat×Ct)}{E:List (Nat×bB)}{L:List (Nat×LO)}{n:Nat}{g:Bool}{gn:List (Nat×bB)}
variable{d ty:Nat}{pos:String}{aft:Array Edge}{gd:Option (Nat×Bool)}
theorem bC{T:Nat}(hT:∀w,(underlying T).run P w= .ok .string w){x:Operand}{gx:Bool}{l:List UInt8}
 (ho:all[i]?=some ⟨some d,.call {callee:= .builtin .len,args:=#[x],argTypes:=#[T]},ty,pos,aft,gd⟩:=by rfl)(hg:GuardOk (en E) all gd g gn:=by first|exact gN|exact gS rfl rfl)
 (hx:aP (en E) x=some (gx,.t l):=by rfl)(hgx:g=true→gx=true:=by first|exact fun _=>rfl|exact id)
 (h:Reg P r N D B all (i+1) ops ((i,bK gn [x] [(gx,.t l)] (some d) (g,.i l.length) [])::tr) (st ((d,(g,.i l.length))::E) L n) K):
 Reg P r N D B all i (⟨some d,.call {callee:= .builtin .len,args:=#[x],argTypes:=#[T]},ty,pos,aft,gd⟩::ops) tr (st E L n) K:=
 m6 (a:= .string ⟨l.toArray⟩) (m:=l.length) (fun w=>by rw[B1 hT w,im]) ho hg hx hgx h
theorem bu{T:Nat}(hT:∀w,(underlying T).run P w= .ok .string w){x y:Operand}{gx gy:Bool}{l:List UInt8}{k:IntKind}{j:Int}{c:UInt8}
 (ho:all[i]?=some ⟨some d,.index T x y,ty,pos,aft,gd⟩:=by rfl)(hg:GuardOk (en E) all gd g gn:=by first|exact gN|exact gS rfl rfl)
 (hx:aP (en E) x=some (gx,.t l):=by rfl)(hy:aP (en E) y=some (gy,.v (.int k j)):=by rfl)
 (hgx:g=true→gx=true:=by first|exact fun _=>rfl|exact id)(hgy:g=true→gy=true:=by first|exact fun _=>rfl|exact id)
 (hj:g=true→0≤j∧l[j.toNat]?=some c)
 (h:Reg P r N D B all (i+1) ops ((i,bK gn [x,y] [(gx,.t l),(gy,.v (.int k j))] (some d) (g,.y c.toNat) [])::tr) (st ((d,(g,.y c.toNat))::E) L n) K):
 Reg P r N D B all i (⟨some d,.index T x y,ty,pos,aft,gd⟩::ops) tr (st E L n) K:=
 Reg.two rfl (fun h=>by
  rw[aE h hgx,aE h hgy];refine bj (x:=x) (y:=y) rfl (by simp) fun md n0 cx H ρ w _ _ v1 v2=>?_;obtain⟨h0,h1⟩:=hj h;refine⟨.int .u8 c.toNat,?_,aZ⟩;have hs:=Fh l _ c h1;simp[execOp,Instr.index,asIntOf,v1.val,v2.val,hT w,h0,hs]) ho hg hx hy (by simp) h
theorem lr{T:Nat}(hT:∀w,(underlying T).run P w= .ok .string w){l:List UInt8}(lo hi:Option Value)(a b:Nat)
 (hlo:(lo=none∧a=0)∨∃k,lo=some (.int k a))(hhi:(hi=none∧b=l.length)∨∃k,hi=some (.int k b))(hab:a≤b)(hb:b≤l.length)(w:World):
 (Instr.sliceAt T (.string ⟨l.toArray⟩) lo hi none).run P w= .ok (.string ⟨((l.take b).drop a).toArray⟩) w:=by
 have hsz:=im l;have hex:=wj l;rcases hlo with⟨rfl,rfl⟩|⟨k,rfl⟩<;>rcases hhi with⟨rfl,rfl⟩|⟨k',rfl⟩<;>
  simp[Instr.sliceAt,Instr.slice,hT w,Instr.sliceBounds,Instr.sliceBound,asIntOf,hab,hb,hsz,hex]
theorem dd{T:Nat}(hT:∀w,(underlying T).run P w= .ok .string w){x y:Operand}{gx gy:Bool}{l:List UInt8}{k:IntKind}{a:Int}
 (ho:all[i]?=some ⟨some d,.slice T x (some y) none none,ty,pos,aft,gd⟩:=by rfl)(hg:GuardOk (en E) all gd g gn:=by first|exact gN|exact gS rfl rfl)
 (hx:aP (en E) x=some (gx,.t l):=by rfl)(hy:aP (en E) y=some (gy,.v (.int k a)):=by rfl)
 (hgx:g=true→gx=true:=by first|exact fun _=>rfl|exact id)(hgy:g=true→gy=true:=by first|exact fun _=>rfl|exact id)
 (ha:g=true→0≤a∧a≤l.length)
 (h:Reg P r N D B all (i+1) ops ((i,bK gn [x,y] [(gx,.t l),(gy,.v (.int k a))] (some d) (g,.t (l.drop a.toNat)) [])::tr) (st ((d,(g,.t (l.drop a.toNat)))::E) L n) K):
 Reg P r N D B all i (⟨some d,.slice T x (some y) none none,ty,pos,aft,gd⟩::ops) tr (st E L n) K:=
 Reg.two rfl (fun h=>by
  rw[aE h hgx,aE h hgy];refine bj (x:=x) (y:=y) rfl (by simp) fun md n0 cx H ρ w _ _ v1 v2=>?_;obtain⟨h0,h1⟩:=ha h;obtain⟨m,rfl⟩:=Int.eq_ofNat_of_zero_le h0;have hr:=lr (P:=P) hT (some (.int k m)) none m l.length (.inr ⟨k,rfl⟩) (.inl ⟨rfl,rfl⟩) (by omega) (Nat.le_refl _) w;rw[List.take_length]at hr;refine⟨_,?_,aZ⟩;simp[execOp,v1.val,v2.val,hr]) ho hg hx hy (by simp) h
theorem lF{T:Nat}(hT:∀w,(underlying T).run P w= .ok .string w){x y:Operand}{gx gy:Bool}{l:List UInt8}{k:IntKind}{a:Int}
 (ho:all[i]?=some ⟨some d,.slice T x none (some y) none,ty,pos,aft,gd⟩:=by rfl)(hg:GuardOk (en E) all gd g gn:=by first|exact gN|exact gS rfl rfl)
 (hx:aP (en E) x=some (gx,.t l):=by rfl)(hy:aP (en E) y=some (gy,.v (.int k a)):=by rfl)
 (hgx:g=true→gx=true:=by first|exact fun _=>rfl|exact id)(hgy:g=true→gy=true:=by first|exact fun _=>rfl|exact id)
 (ha:g=true→0≤a∧a≤l.length)
 (h:Reg P r N D B all (i+1) ops ((i,bK gn [x,y] [(gx,.t l),(gy,.v (.int k a))] (some d) (g,.t (l.take a.toNat)) [])::tr) (st ((d,(g,.t (l.take a.toNat)))::E) L n) K):
 Reg P r N D B all i (⟨some d,.slice T x none (some y) none,ty,pos,aft,gd⟩::ops) tr (st E L n) K:=
 Reg.two rfl (fun h=>by
  rw[aE h hgx,aE h hgy];refine bj (x:=x) (y:=y) rfl (by simp) fun md n0 cx H ρ w _ _ v1 v2=>?_;obtain⟨h0,h1⟩:=ha h;obtain⟨m,rfl⟩:=Int.eq_ofNat_of_zero_le h0;have hr:=lr (P:=P) (l:=l) hT none (some (.int k m)) 0 m (.inl ⟨rfl,rfl⟩) (.inr ⟨k,rfl⟩) (by omega) (by omega) w;rw[List.drop_zero]at hr;refine⟨_,?_,aZ⟩;simp[execOp,v1.val,v2.val,hr]) ho hg hx hy (by simp) h
theorem tW{T:Nat}(hT:∀w,(underlying T).run P w= .ok .string w){x y z:Operand}{gx gy gz:Bool}{l:List UInt8}{k k':IntKind}{a b:Int}
 (ho:all[i]?=some ⟨some d,.slice T x (some y) (some z) none,ty,pos,aft,gd⟩:=by rfl)(hg:GuardOk (en E) all gd g gn:=by first|exact gN|exact gS rfl rfl)
 (hx:aP (en E) x=some (gx,.t l):=by rfl)(hy:aP (en E) y=some (gy,.v (.int k a)):=by rfl)(hz:aP (en E) z=some (gz,.v (.int k' b)):=by rfl)
 (hgx:g=true→gx=true:=by first|exact fun _=>rfl|exact id)(hgy:g=true→gy=true:=by first|exact fun _=>rfl|exact id)(hgz:g=true→gz=true:=by first|exact fun _=>rfl|exact id)
 (ha:g=true→0≤a∧a≤b∧b≤l.length)
 (h:Reg P r N D B all (i+1) ops ((i,bK gn [x,y,z] [(gx,.t l),(gy,.v (.int k a)),(gz,.v (.int k' b))] (some d) (g,.t ((l.take b.toNat).drop a.toNat)) [])::tr) (st ((d,(g,.t ((l.take b.toNat).drop a.toNat)))::E) L n) K):
 Reg P r N D B all i (⟨some d,.slice T x (some y) (some z) none,ty,pos,aft,gd⟩::ops) tr (st E L n) K:=
 Reg.three rfl (fun h=>by
  rw[aE h hgx,aE h hgy,aE h hgz];refine gg (x:=x) (y:=y) (z:=z) rfl (by simp) fun md n0 cx H ρ w _ _ v1 v2 v3=>?_;obtain⟨h0,h1,h2⟩:=ha h;obtain⟨m,rfl⟩:=Int.eq_ofNat_of_zero_le h0;obtain⟨m',rfl⟩:=Int.eq_ofNat_of_zero_le (show 0≤b by omega);have hr:=lr (P:=P) (l:=l) hT (some (.int k m)) (some (.int k' m')) m m' (.inr ⟨k,rfl⟩) (.inr ⟨k',rfl⟩) (by omega) (by omega) w;refine⟨_,?_,aZ⟩;simp[execOp,v1.val,v2.val,v3.val,hr]) ho hg hx hy hz (by simp) h
theorem bH(t:Nat)(x y:Operand)(a b:List UInt8):∀w,(do eqGuard .eql t x y (.string ⟨a.toArray⟩) (.string ⟨b.toArray⟩);binOp .eql t (.string ⟨a.toArray⟩) (.string ⟨b.toArray⟩):Sem Value).run P w= .ok (.bool (decide (a=b))) w:=by
 intro w;rw[uQ t x y _ _ w,Bu]
theorem cj(t:Nat)(x y:Operand)(a b:List UInt8):∀w,(do eqGuard .neq t x y (.string ⟨a.toArray⟩) (.string ⟨b.toArray⟩);binOp .neq t (.string ⟨a.toArray⟩) (.string ⟨b.toArray⟩):Sem Value).run P w= .ok (.bool (!decide (a=b))) w:=by
 intro w;rw[BZ t x y _ _ w,Bu]
theorem aN(t:Nat)(x y:Operand)(a b:List UInt8)(h:a.length+b.length≤9223372036854775807):∀w,(do eqGuard .add t x y (.string ⟨a.toArray⟩) (.string ⟨b.toArray⟩);binOp .add t (.string ⟨a.toArray⟩) (.string ⟨b.toArray⟩):Sem Value).run P w= .ok (.string ⟨(a++b).toArray⟩) w:=by
 intro w;have h1:=run_string_add_sum (P:=P) (w:=w) ⟨a.toArray⟩ ⟨b.toArray⟩ (by rw[im,im];exact h);rw[xI]at h1;simp[eqGuard,binOp,h1]
theorem sE{s t e:Nat}(hs:P.underlying s=some .string)(ht:P.underlying t=some (.slice e))(he:P.underlying e=some (.int .u8)){x:Operand}{l:List UInt8}
 (ho:all[i]?=some ⟨some d,.convert s t x,ty,pos,aft,gd⟩:=by rfl)(hg:GuardOk (en E) all gd g gn:=by first|exact gN|exact gS rfl rfl){gx:Bool}
 (hx:aP (en E) x=some (gx,.t l):=by rfl)(hgx:g=true→gx=true:=by first|exact fun _=>rfl|exact id)
 (hl:l.length≤4398046511104)
 (h:Reg P r N D B all (i+1) ops ((i,bK gn [x] [(gx,.t l)] (some d) (g,.sv (.sl 1 (aL l))) [])::tr) (st ((d,(g,.sv (.sl 1 (aL l))))::E) L n) K):
 Reg P r N D B all i (⟨some d,.convert s t x,ty,pos,aft,gd⟩::ops) tr (st E L n) K:=
 Reg.one rfl (fun h=>by
  rw[aE h hgx];refine bO (by simp) (by simp) fun md n0 cx H ρ w hok _ _ _ hv=>?_;have hop:(Oper.mk (some d) (.convert s t x) ty pos aft gd).op.operands.toList=[x]:=rfl;rw[hop]at hv;have hx':ρ x= .string ⟨l.toArray⟩:=(Vs.one hv).val;have hrun:=run_bytes_of_string (P:=P) w s t e ⟨l.toArray⟩ hs ht he;rw[im]at hrun;have hge:=grownCap_ge w l.length 0 e;have hcm:=grownCap_le_maxLen w l.length 0 e (by unfold maxLen;omega);generalize hcap:grownCap w l.length 0 e=cap at hrun hge hcm
  let ob:Obj:= .cells (bytesRow ⟨l.toArray⟩ cap) e ((bytesRow ⟨l.toArray⟩ cap).size,(bytesRow ⟨l.toArray⟩ cap).size+1)
  let pr':Nat→Nat:=fun b=>if b=w.heap.size then l.length else cx.pr b
  let cx':Cx:=⟨pr',cx.A,cx.loc,cx.inn⟩
  have hold:∀b,b<w.heap.size→(w.drew.alloc ob).heap[b]?=w.heap[b]?:=fun b hb=>heap_alloc_old w.drew ob hb;have hnew:(w.drew.alloc ob).heap[w.heap.size]?=some ob:=heap_alloc_new w.drew ob;have hsz:(w.drew.alloc ob).heap.size=w.heap.size+1:=by simp
  have hprold:∀b,b<w.heap.size→pr' b=cx.pr b:=fun b hb=>by show(if b=w.heap.size then _ else _)=_;rw[if_neg (by omega)]
  refine⟨.value (.slice (some ⟨w.heap.size,0,none⟩) l.length cap),_,w.drew.alloc ob,cx',?_,.inl rfl,⟨fun o ho=>⟨ho,rfl⟩,fun o=>by simp[cx'],⟨rfl,rfl,rfl,by omega,fun b hb _=>hold b hb,fun b hb _=>hprold b hb,fun b off hb=>?_⟩,
   ⟨fun o x hx=>by simp at hx,fun o x b hx=>by simp at hx,fun o o' x x' b _ hx=>by simp at hx,fun b hb=>?_⟩,fun _ _ _=>rfl⟩,?_⟩
  simp only[execOp,hx'];rw[Sem.run_bind,hrun];rfl;have hbs:=hok.lim b (by omega);refine⟨by show off<pr' b;rw[hprold b hbs];exact hb,?_⟩;simp only[World.cell?,hold b hbs];rcases Nat.lt_trichotomy b w.heap.size with hlt|heq|hgt
  omega;omega;have hb':0<pr' b:=hb;simp only[pr']at hb';rw[if_neg (by omega)]at hb';have:=hok.lim b hb';omega;simp only[V,VS];right;refine⟨w.heap.size,0,cap,by simp[aL],by simpa[aL]using hge,hcm,?_,?_⟩;show _≤pr' w.heap.size;simp[pr',aL];have hcell:∀j,(hj:j<l.length)→(w.drew.alloc ob).cell? ⟨w.heap.size,j,none⟩=some (.int .u8 (l[j].toNat:Int)):=by
   intro j hj;have e1:(bytesRow ⟨l.toArray⟩ cap)[j]?=some (.int .u8 (l[j].toNat:Int)):=by
    simp[bytesRow,Array.getElem?_append,hj]
   simp only[World.cell?,hnew,ob];simp[e1]
  have gen:∀(m:List UInt8) (off:Nat),(∀j,(hj:j<m.length)→(w.drew.alloc ob).cell? ⟨w.heap.size,off+j,none⟩=some (.int .u8 (m[j].toNat:Int)))→VSR pr' (w.drew.alloc ob) w.heap.size off 1 (aL m):=by
   intro m;induction m with
   |nil=>intro off _;simp[aL,VSR]
   |cons c m ih=>
    intro off hc;simp only[aL,List.map_cons,VSR,VSC,VS];refine⟨rfl,⟨⟨_,by have h0:=hc 0 (by simp);simp only[Nat.add_zero]at h0;exact h0,rfl,rfl⟩,trivial⟩,ih (off+1) (fun j hj=>?_)⟩;have:=hc (j+1) (by simpa using hj);rw[show off+1+j=off+(j+1)from by omega];simpa using this
  exact gen l 0 (fun j hj=>by rw[Nat.zero_add];exact hcell j hj)) ho hg hx (by simp) h
theorem az{t e sz:Nat}(hF:AppF P t e sz){len:Nat}{parts:Array (Nat×Operand)}{xs:List Operand}{es:List bB}{ls:List LV}{cs:List (List LV)}{ys:List (List SV)}
 (ho:all[i]?=some ⟨some d,.buildSlice t len parts,ty,pos,aft,gd⟩:=by rfl)(hg:GuardOk (en E) all gd g gn:=by first|exact gN|exact gS rfl rfl)(hp':parts.toList=xs.zipIdx.map (fun p=>(p.2,p.1)):=by rfl)
 (hx:xs.map (aP (en E))=es.map some:=by rfl)(hes:g=true→es.map bD=ls:=by first|exact fun _=>rfl|(intro h;simp[bD,h];done)|(intro h;simp only[List.map_cons,List.map_nil,fG h];first|done|rfl))
 (hcs:CellsOfs ls cs)(hys:cs.map (List.map y7)=ys:=by simp only[List.map_cons,List.map_nil,bD,y7];rfl)
 (hsz:(cs.all fun c=>c.length==sz)=true:=by rfl)(hlen:cs.length=len:=by rfl)
 (hl:an 0 ls=true:=by rfl)(hy:cs=ys.map (List.map LV.sv):=by rfl)
 (hsm:len*sz≤16777216:=by first|decide|omega)(hlm:len≤16777216:=by first|decide|omega)
 (h:Reg P r N D B all (i+1) ops ((i,bK gn xs es (some d) (g,.sv (.sl sz ys)) [])::tr) (st ((d,(g,.sv (.sl sz ys)))::E) L n) K):
 Reg P r N D B all i (⟨some d,.buildSlice t len parts,ty,pos,aft,gd⟩::ops) tr (st E L n) K:=
 bE hF ys ho hg hp' hx hes hcs hsz hlen hl hy hsm hlm h
end
end Go.Proofs.YtgkhfpfjokagfaaGreatDoor
namespace Go.Proofs.YtgkhfpfjokagfaaGreatDoor
def ic(k:IntKind)(l:List Int):List (List SV):=l.map fun x=>[.val (.int k x)]
theorem wS(k:IntKind)(l m:List Int):ic k (l++m)=ic k l++ic k m:=by simp[ic]
theorem bp(k:IntKind)(l:List Int):(ic k l).length=l.length:=by simp[ic]
theorem pG(k:IntKind)(l:List Int):∀e∈ic k l,e.length=1:=by simp[ic]
theorem pH{k:IntKind}{l:List Int}{j:Nat}{x:Int}(h:l[j]?=some x):(ic k l)[j]?=some [.val (.int k x)]:=by simp[ic,h]
theorem o6(k:IntKind)(l:List Int)(x:Int):ic k l++[[.val (.int k x)]]=ic k (l++[x]):=by simp[ic]
theorem dc(l m:List UInt8):aL (l++m)=aL l++aL m:=by simp[aL]
theorem ba(l:List UInt8):(aL l).length=l.length:=by simp[aL]
theorem jc(l:List UInt8):∀e∈aL l,e.length=1:=by simp[aL]
def Hl(n:Int):UInt8:=UInt8.ofNat n.toNat
theorem sB(n:Int)(h0:0≤n)(h1:n<256):((Hl n).toNat:Int)=n:=by
 simp only[Hl,UInt8.toNat_ofNat'];omega
theorem GL(l:List Int)(h:∀x∈l,0≤x∧x<256):ic .u8 l=aL (l.map Hl):=by
 simp only[ic,aL,List.map_map];exact List.map_congr_left (fun x hx=>by simp only[Function.comp];rw[sB x (h x hx).1 (h x hx).2])
theorem Ap(l:List UInt8):aL l=ic .u8 (l.map fun c=>(c.toNat:Int)):=by simp[aL,ic,List.map_map,Function.comp]
theorem HM(c:UInt8):(c.toNat:Int)<256:=by have:=c.toNat_lt;omega
theorem HN(c:UInt8):(0:Int)≤c.toNat:=by omega
section
variable{P:Program}
theorem uN(t:Nat)(x y:Operand)(k yk:IntKind)(a b:Int){v:Int}(hb:0≤b)(hv:k.wrap (a*2^(min b.toNat k.bits))=v):∀w,(do eqGuard .shl t x y (.int k a) (.int yk b);binOp .shl t (.int k a) (.int yk b):Sem Value).run P w= .ok (.int k v) w:=by
 subst hv;exact Ed t x y k yk a b hb
theorem Eg(t:Nat)(x y:Operand)(k:IntKind)(a b:Int){v:Int}(hv:k.wrap ((BitVec.ofInt k.bits a|||BitVec.ofInt k.bits b).toNat)=v):∀w,(do eqGuard .or t x y (.int k a) (.int k b);binOp .or t (.int k a) (.int k b):Sem Value).run P w= .ok (.int k v) w:=by
 subst hv;exact Gk t x y k a b
theorem jR(t:Nat)(x y:Operand)(k:IntKind)(a b:Int){v:Int}(hv:k.wrap ((BitVec.ofInt k.bits a&&&BitVec.ofInt k.bits b).toNat)=v):∀w,(do eqGuard .and t x y (.int k a) (.int k b);binOp .and t (.int k a) (.int k b):Sem Value).run P w= .ok (.int k v) w:=by
 subst hv;exact Ei t x y k a b
end
section
variable{P:Program}{r:Option Nat}{N:Nat}{D:List Nat}{B:bG}{all:Array Oper}{K:List (Nat×Ct)→St→Prop}
variable{i:Nat}{ops:List Oper}{tr:List (Nat×Ct)}{E:List (Nat×bB)}{L:List (Nat×LO)}{n:Nat}{gn:List (Nat×bB)}
variable{d ty:Nat}{pos:String}{aft:Array Edge}
theorem aK{f k:Nat}{fo:Operand}{args:Array Operand}{ats:Array TypeId}{es:List bB}{lvs first cap:List LV}{out out':LV}{Hi Hi' Ho Ho':List (Nat×LO)}(ids:List Nat)(hc:LC P f ids.length lvs Hi out Ho k)
 (ho:all[i]?=some ⟨some d,.call {callee:= .value fo,args:=args,argTypes:=ats},ty,pos,aft,none⟩:=by rfl)
 (hf:aP (en E) fo=some (true,.fn (.func f) first cap):=by rfl)
 (hx:args.toList.map (aP (en E))=es.map some:=by rfl)(hes:first++es.map bD++cap=aV (sg ids n) lvs:=by rfl)(hnd:ids.Nodup:=by decide)
 (hout:out.mapI (sg ids n)=out':=by rfl)(hHi:(Hi.map fun p=>(sg ids n p.1,p.2.mapI (sg ids n)))=Hi':=by rfl)(hHo:(Ho.map fun p=>(sg ids n p.1,p.2.mapI (sg ids n)))=Ho':=by rfl)
 (hL:KeepL (hp L) Hi':=by repeat (first|exact trivial|refine⟨rfl,?_⟩))
 (h:Reg P r N D B all (i+1) ops ((i,⟨bA (fo::args.toList) ((true,.fn (.func f) first cap)::es),some d,(true,out'),[],Hi',Ho',List.range' n k⟩)::tr) (st ((d,(true,out'))::E) (jA L Hi' Ho') (n+k)) K):
 Reg P r N D B all i (⟨some d,.call {callee:= .value fo,args:=args,argTypes:=ats},ty,pos,aft,none⟩::ops) tr (st E L n) K:=by
 have hl:(Oper.mk (some d) (.call {callee:= .value fo,args:=args,argTypes:=ats}) ty pos aft none).op.operands.toList=fo::args.toList:=by simp[Op.operands,Go.Call.operands]
 have h2:=OpC.call (r:=r) (n:=n) (ids:=ids) (k:=k) (Ho:=Ho) hc hnd (o:=⟨some d,.call {callee:= .value fo,args:=args,argTypes:=ats},ty,pos,aft,none⟩) rfl rfl (first:=first) (cap:=cap) (avs:=es.map bD) hes;rw[hout,hHi,hHo]at h2;refine gM (m:=k) (es:=(true,.fn (.func f) first cap)::es) (rd:=[]) (Hi:=Hi') (Ho:=Ho') (out:=out') ho gN (by rw[hl];exact⟨_,_,rfl,hf,bw hx⟩) (by simp) (fun o x hx=>hL.get hx) h2 ?_;rw[hl];exact h
end
end Go.Proofs.YtgkhfpfjokagfaaGreatDoor
namespace Go.Proofs.YtgkhfpfjokagfaaGreatDoor
theorem oJ{P:Program}{r:Option Nat}{o:Oper}{lvs:List LV}{rd:List (Nat×LO)}{out:LV}{n:Nat}{x y:LO}(h:OpC P r o lvs rd [] out [(n,x)] [n])(hy:∀cx w,ObjOk cx w n x→ObjOk cx w n y)(hxy:y.isBx=x.isBx:=by rfl):
 OpC P r o lvs rd [] out [(n,y)] [n]:=by
 refine⟨fun p hp'=>by simp at hp';subst hp';exact .inr (by simp),fun md n0 cx H a w K Q hok ham hrd hHi hnew hv hK=>?_⟩;refine h.2 md n0 cx H a w K Q hok ham hrd hHi hnew hv (fun cx' w' v t hv'=>hK cx' w' v ⟨t.le,t.A,t.grow,?_,t.inn⟩ hv');have h2:=t.heap.tell (o:=n) (by simp) (hy cx' w') hxy;rw[uH]at h2;exact h2
section
variable{P:Program}{r:Option Nat}{N:Nat}{D:List Nat}{B:bG}{Ψ:Exit→Act→World→Prop}{todo:List Item}
variable{E:List (Nat×bB)}{L:List (Nat×LO)}{n:Nat}
theorem dG(t:Nat){o T sz:Nat}{ys:List (List SV)}(ht:en E t=some (true,.ref o):=by rfl)(hb:hp L o=some (.rs T sz ys):=by rfl)
 (h:LGo P r N D B Ψ todo (st (kE o (.sl sz ys) E) (cI o L) n)):LGo P r N D B Ψ todo (st E L n):=LGo.frz o hb h
end
section
variable{P:Program}{r:Option Nat}{N:Nat}{D:List Nat}{B:bG}{all:Array Oper}{K:List (Nat×Ct)→St→Prop}
variable{i:Nat}{ops:List Oper}{tr:List (Nat×Ct)}{E:List (Nat×bB)}{L:List (Nat×LO)}{n:Nat}{g:Bool}{gn:List (Nat×bB)}
variable{d ty:Nat}{pos:String}{aft:Array Edge}{gd:Option (Nat×Bool)}
theorem bo{t e sz:Nat}(hF:AppF P t e sz){len:Nat}{parts:Array (Nat×Operand)}{xs:List Operand}{es:List bB}{cs:List (List LV)}{ys:List (List SV)}
 (ho:all[i]?=some ⟨some d,.buildSlice t len parts,ty,pos,aft,none⟩:=by rfl)(hp':parts.toList=xs.zipIdx.map (fun p=>(p.2,p.1)):=by rfl)
 (hx:xs.map (aP (en E))=es.map some:=by rfl)(hcs:CellsOfs (es.map bD) cs)(hys:cs.map (List.map y7)=ys:=by simp only[List.map_cons,List.map_nil,bD,y7];rfl)
 (hsz:(cs.all fun c=>c.length==sz)=true:=by rfl)(hlen:cs.length=len:=by rfl)(hy:cs=ys.map (List.map LV.sv):=by rfl)
 (hsm:len*sz≤16777216:=by first|decide|omega)(hlm:len≤16777216:=by first|decide|omega)
 (h:Reg P r N D B all (i+1) ops ((i,⟨bA xs es,some d,(true,.ref n),[],[],[(n,.rs e sz ys)],[n]⟩)::tr) (st ((d,(true,.ref n))::E) ((n,.rs e sz ys)::L) (n+1)) K):
 Reg P r N D B all i (⟨some d,.buildSlice t len parts,ty,pos,aft,none⟩::ops) tr (st E L n) K:=by
 have hl:(Oper.mk (some d) (.buildSlice t len parts) ty pos aft none).op.operands.toList=xs:=by
  show(parts.toList.map (·.2)).toArray.toList=xs;rw[hp'];simp only[List.map_map,List.toList_toArray];have:((fun(x:Nat×Operand)=>x.2)∘fun(p:Operand×Nat)=>(p.2,p.1))=Prod.fst:=rfl;rw[this];simp
 exact Reg.new (es:=es) (rd:=[]) ho gN (by rw[hl];exact bw hx) (by simp)
  (oJ (OpC.buildSlice hF rfl (by simp) hp' hcs hsz hlen hsm hlm n) (fun cx w hx=>e7 (by rw[←hy];exact hx))) (by rw[hl];exact h)
end
end Go.Proofs.YtgkhfpfjokagfaaGreatDoor
namespace Go.Proofs.YtgkhfpfjokagfaaGreatDoor
theorem Vs.swap{cx cx':Cx}{w:World}(hl:CxLe cx cx')(hx:Ext cx.pr w cx'.pr w){d c:LV}:∀{cs:List LV} {k:Nat} {vs:List Value},(∀v,vs[k]?=some v→V cx w d v→V cx' w c v)→Vs cx w (cs.set k d) vs→Vs cx' w (cs.set k c) vs
 |[],k,vs,_,h=>by simpa[Vs]using h
 |a::cs,0,vs,hc,h=>by
  simp only[List.set_cons_zero,Vs]at h⊢;obtain⟨y,r,rfl,h2,h3⟩:=h;exact⟨y,r,rfl,hc y rfl h2,Vs.mono hl hx _ _ h3⟩
 |a::cs,k+1,vs,hc,h=>by
  simp only[List.set_cons_succ,Vs]at h⊢;obtain⟨y,r,rfl,h2,h3⟩:=h;exact⟨y,r,rfl,V.mono hl hx _ _ h2,Vs.swap hl hx (fun v hv=>hc v (by simpa using hv)) h3⟩
section
variable{P:Program}{r:Option Nat}{N:Nat}{D:List Nat}{B:bG}{Ψ:Exit→Act→World→Prop}{todo:List Item}
variable{E:List (Nat×bB)}{L:List (Nat×LO)}{n:Nat}
theorem Rel.unpack(o:Nat){T k Te sz:Nat}{cs cs':List LV}{ys:List (List SV)}(hb:hp L o=some (.bx T cs k Te sz ys):=by rfl)(hcs:cs.set k (.ref n)=cs':=by rfl)
 {cx:Cx}{a:Act}{w:World}(hr:Rel B N D (st E L n) cx a w):∃cx',Rel B N D (st E ((n,.rs Te sz ys)::(o,.box T cs')::cI o L) (n+1)) cx' a w:=by
 subst hcs;have hA:¬cx.A n:=by rw[hr.hA];show¬n<n;omega
 obtain⟨hAo,b,vs,v,h1,h2,h3,h4,h5,h5',h5'',h6,us,h7,h8,h9⟩:=hr.heap.ok o _ hb;have hon:o≠n:=fun e=>hA (e▸hAo)
 let cx':Cx:=⟨cx.pr,fun q=>cx.A q∨q=n,fun q=>if q=n then v else cx.loc q,cx.inn⟩
 have hle:CxLe cx cx':=fun q hq=>⟨.inl hq,by
  show(if q=n then _ else cx.loc q)=_;rw[if_neg (by rintro rfl;exact hA hq)]⟩
 have hlo:cx'.loc n=v:=by show(if n=n then _ else _)=_;simp
 have hext:Ext cx.pr w cx'.pr w:=Ext.refl _ _;have get:∀q x,hp ((n,LO.rs Te sz ys)::(o,.box T (cs.set k (.ref n)))::cI o L) q=some x→(q=n∧x= .rs Te sz ys)∨(q=o∧x= .box T (cs.set k (.ref n)))∨(q≠n∧q≠o∧hp L q=some x):=by
  intro q x hx;by_cases hq:q=n;subst hq;simp only[hp,List.lookup_cons,beq_self_eq_true]at hx;cases hx;exact .inl ⟨rfl,rfl⟩
  have e1:(q==n)=false:=by simp[hq]
  simp only[hp,List.lookup_cons,e1]at hx;by_cases hqo:q=o;subst hqo;simp only[beq_self_eq_true]at hx;cases hx;exact .inr (.inl ⟨rfl,rfl⟩)
  have e2:(q==o)=false:=by simp[hqo]
  simp only[e2]at hx;have:=congrFun (kf o L) q;simp only[hp]at this;rw[this,if_neg hqo]at hx;exact .inr (.inr ⟨hq,hqo,hx⟩)
 have old:∀q x,hp L q=some x→∀c,cx'.has q x c↔cx.has q x c:=fun q x hx c=>by unfold Cx.has;rw[(hle q (hr.heap.ok q x hx).1).2]
 have hasN:∀c,cx'.has n (.rs Te sz ys) c→cx.has o (.bx T cs k Te sz ys) c:=by
  intro c hc;rw[cY rfl,hlo]at hc;exact .inr ⟨rfl,by rw[h5];exact hc⟩
 have hasO:∀c,cx'.has o (.box T (cs.set k (.ref n))) c→cx.has o (.bx T cs k Te sz ys) c∧bk (cx.loc o)=some c:=by
  intro c hc;rw[cY rfl,(hle o hAo).2]at hc;exact⟨.inl hc,hc⟩
 refine⟨cx',⟨hr.grow,hr.le.trans hle,?_,⟨fun q x hx=>?_,fun q x c hx hc=>?_,fun q q' x x' c hne hx hx' hc hc'=>?_,hr.heap.lim⟩,hr.size,fun s e he=>(hr.env s e he).mono hle hext,?_,fun q hq=>.inl (hr.dA q hq)⟩⟩;funext q;have:cx.A q↔q<n:=by rw[hr.hA]
 exact propext ⟨fun h=>by
  rcases h with h|h
  have:=this.1 h;show q<n+1;omega;show q<n+1;omega,fun h=>by
  have h':q<n+1:=h;rcases Nat.lt_or_ge q n with h1|h1
  exact .inl (this.2 h1);exact .inr (by omega)⟩
 rcases get q x hx with⟨rfl,rfl⟩|⟨rfl,rfl⟩|⟨hq,hqo,hx'⟩
 exact⟨.inr rfl,h6,us,by rw[hlo];exact h7,Vs.mono hle hext _ _ h8,h9⟩;refine⟨.inl hAo,b,vs,by rw[(hle q hAo).2];exact h1,h2,Vs.swap hle hext (fun u hu hd=>?_) h3⟩;have hu':u=v:=hd.val;subst hu';simp only[V];exact⟨.inr rfl,hlo.symm,h5''⟩;obtain⟨k1,k2⟩:=hr.heap.ok q x hx';exact⟨.inl k1,ObjOk.mono hle hext k1 (fun _ _ _=>rfl) rfl k2⟩;rcases get q x hx with⟨rfl,rfl⟩|⟨rfl,rfl⟩|⟨hq,hqo,hx'⟩
 exact hr.heap.own o _ c hb (hasN c hc);exact hr.heap.own q _ c hb (hasO c hc).1;exact hr.heap.own q x c hx' ((old q x hx' c).1 hc);rcases get q x hx with⟨rfl,rfl⟩|⟨rfl,rfl⟩|⟨hq,hqo,hx1⟩<;>rcases get q' x' hx' with⟨rfl,rfl⟩|⟨rfl,rfl⟩|⟨hq',hqo',hx1'⟩
 exact hne rfl;have e1:=(hasO c hc').2;rw[cY rfl,hlo]at hc;rw[h1]at e1;simp only[bk,Option.some.injEq]at e1;subst e1;exact h5' hc;exact hr.heap.inj o q' _ x' c (Ne.symm hqo') hb hx1' (hasN c hc) ((old q' x' hx1' c).1 hc');have e1:=(hasO c hc).2;rw[cY rfl,hlo]at hc';rw[h1]at e1;simp only[bk,Option.some.injEq]at e1;subst e1;exact h5' hc';exact hne rfl;exact hr.heap.inj q q' _ x' c (Ne.symm hqo') hb hx1' (hasO c hc).1 ((old q' x' hx1' c).1 hc');exact hr.heap.inj q o x _ c hqo hx1 hb ((old q x hx1 c).1 hc) (hasN c hc');exact hr.heap.inj q q' x _ c hqo hx1 hb ((old q x hx1 c).1 hc) (hasO c hc').1;exact hr.heap.inj q q' x x' c hne hx1 hx1' ((old q x hx1 c).1 hc) ((old q' x' hx1' c).1 hc');rw[hr.df];exact List.map_congr_left (fun q hq=>by simp only[Ay];rw[(hle q (hr.dA q hq)).2])
theorem LGo.unpack(o:Nat){T k Te sz:Nat}{cs cs':List LV}{ys:List (List SV)}(hb:hp L o=some (.bx T cs k Te sz ys):=by rfl)(hcs:cs.set k (.ref n)=cs':=by rfl)
 (h:LGo P r N D B Ψ todo (st E ((n,.rs Te sz ys)::(o,.box T cs')::cI o L) (n+1))):LGo P r N D B Ψ todo (st E L n):=
 LGo.conv (fun cx a w hr=>Rel.unpack o hb hcs hr) h
theorem RelTo.unpack(o:Nat){T k Te sz:Nat}{cs cs':List LV}{ys:List (List SV)}{Q:Act→World→Prop}(hb:hp L o=some (.bx T cs k Te sz ys):=by rfl)(hcs:cs.set k (.ref n)=cs':=by rfl)
 (h:∀cx a w,Rel B N D (st E ((n,.rs Te sz ys)::(o,.box T cs')::cI o L) (n+1)) cx a w→Q a w):∀cx a w,Rel B N D (st E L n) cx a w→Q a w:=fun cx a w hr=>by
 obtain⟨cx',hr'⟩:=Rel.unpack o hb hcs hr;exact h cx' a w hr'
theorem sJ(o:Nat){T k Te sz:Nat}{cs:List LV}{ys:List (List SV)}(hb:hp L o=some (.box T cs)){lv:LV}(hk:cs[k]?=some lv)(L':List (Nat×LO))(hL':∀q x,hp L' q=some x→hp L q=some x∧q≠o)
 (hv:∀cx w v,HOk (fun _=>True) 0 cx (hp L) w→V cx w lv v→xT v=true∧(∀e∈ys,e.length=sz)∧(∃us,w.ownsRow 0 Te sz v ys.length us∧Vs cx w (ys.flatten.map LV.sv) us∧∀u∈us,u.oneCell'=true)∧
  ∀g,bk v=some g→∃q x,q≠o∧hp L q=some x∧hp L' q=none∧cx.has q x g)
 (h:LGo P r N D B Ψ todo (st E ((o,.bx T cs k Te sz ys)::L') n)):LGo P r N D B Ψ todo (st E L n):=by
 refine LGo.conv (S':=st E ((o,.bx T cs k Te sz ys)::L') n) (fun cx a w hr=>?_) h;obtain⟨hAo,b,vs,h1,h2,h3⟩:=hr.heap.ok o _ hb;obtain⟨v,hv1,hv2⟩:=h3.get hk;have hok0:HOk (fun _=>True) 0 cx (hp L) w:=⟨hr.heap.ok,fun q x c hx hc=>⟨(hr.heap.own q x c hx hc).1,(hr.heap.own q x c hx hc).2.1,.inr trivial⟩,hr.heap.inj,hr.heap.lim⟩;obtain⟨k1,k2,k3,k4⟩:=hv cx w v hok0 hv2
 let cx':Cx:=⟨cx.pr,cx.A,cx.loc,fun q=>if q=o then bk v else cx.inn q⟩
 have hle:CxLe cx cx':=fun q hq=>⟨hq,rfl⟩;have hext:Ext cx.pr w cx'.pr w:=Ext.refl _ _;have hio:cx'.inn o=bk v:=by show(if o=o then _ else _)=_;simp
 have hiq:∀q,q≠o→cx'.inn q=cx.inn q:=fun q hq=>by show(if q=o then _ else _)=_;rw[if_neg hq]
 have get:∀q x,hp ((o,LO.bx T cs k Te sz ys)::L') q=some x→(q=o∧x= .bx T cs k Te sz ys)∨(q≠o∧hp L' q=some x∧hp L q=some x):=by
  intro q x hx;by_cases hq:q=o;subst hq;simp only[hp,List.lookup_cons,beq_self_eq_true]at hx;cases hx;exact .inl ⟨rfl,rfl⟩
  have e1:(q==o)=false:=by simp[hq]
  simp only[hp,List.lookup_cons,e1]at hx;exact .inr ⟨hq,hx,(hL' q x hx).1⟩
 have e9:∀q x c,q≠o→(cx'.has q x c↔cx.has q x c):=fun q x c hq=>by unfold Cx.has;rw[hiq q hq]
 have hasO:∀c,cx'.has o (.bx T cs k Te sz ys) c→cx.has o (.box T cs) c∨∃q x,q≠o∧hp L q=some x∧hp L' q=none∧cx.has q x c:=by
  rintro c (hc|⟨_,hc⟩);exact .inl (.inl hc);rw[hio]at hc;exact .inr (k4 c hc)
 refine⟨cx',⟨hr.grow,hr.le.trans hle,hr.hA,⟨fun q x hx=>?_,fun q x c hx hc=>?_,fun q q' x x' c hne hx hx' hc hc'=>?_,hr.heap.lim⟩,hr.size,fun s e he=>(hr.env s e he).mono hle hext,?_,hr.dA⟩⟩;rcases get q x hx with⟨rfl,rfl⟩|⟨hq,_,hx'⟩
 obtain⟨us,g1,g2,g3⟩:=k3;refine⟨hAo,b,vs,v,h1,h2,?_,(List.getElem?_eq_some_iff.1 hk).1,hio,fun hbv=>?_,k1,k2,us,g1,Vs.mono hle hext _ _ g2,g3⟩;have e1:cs=cs.set k lv:=by
  apply List.ext_getElem?;intro j;rw[List.getElem?_set];by_cases hj:k=j;subst hj;rw[if_pos rfl,if_pos (List.getElem?_eq_some_iff.1 hk).1];exact hk;rw[if_neg hj]
 rw[e1]at h3;exact Vs.swap hle hext (fun u hu _=>by rw[hv1]at hu;cases hu;exact aZ) h3;obtain⟨q',x',e1,e2,_,e4⟩:=k4 b hbv;exact hr.heap.inj q' q x' _ b e1 e2 hb e4 (.inl (by rw[h1];rfl));obtain⟨g1,g2⟩:=hr.heap.ok q x hx';exact⟨g1,ObjOk.mono hle hext g1 (fun _ _ _=>rfl) (hiq q hq) g2⟩;rcases get q x hx with⟨rfl,rfl⟩|⟨hq,_,hx'⟩
 rcases hasO c hc with hc|⟨q',x',e1,e2,_,e4⟩
 exact hr.heap.own q _ c hb hc;exact hr.heap.own q' x' c e2 e4;exact hr.heap.own q x c hx' ((e9 q x c hq).1 hc);have cross:∀q x,q≠o→hp L' q=some x→hp L q=some x→cx.has q x c→cx'.has o (.bx T cs k Te sz ys) c→False:=by
  intro q x hq hx' hx hc hco;rcases hasO c hco with hc1|⟨q1,x1,e1,e2,e3,e4⟩
  exact hr.heap.inj q o x _ c hq hx hb hc hc1;by_cases hqq:q=q1;subst hqq;rw[e3]at hx';cases hx'
  exact hr.heap.inj q q1 x x1 c hqq hx e2 hc e4
 rcases get q x hx with⟨rfl,rfl⟩|⟨hq,hx1,hx2⟩<;>rcases get q' x' hx' with⟨rfl,rfl⟩|⟨hq',hx1',hx2'⟩
 exact hne rfl;exact cross q' x' hq' hx1' hx2' ((e9 q' x' c hq').1 hc') hc;exact cross q x hq hx1 hx2 ((e9 q x c hq).1 hc) hc';exact hr.heap.inj q q' x x' c hne hx2 hx2' ((e9 q x c hq).1 hc) ((e9 q' x' c hq').1 hc');rw[hr.df];rfl
theorem yh(o:Nat)(x y:LO)(L:List (Nat×LO)):st E ((o,y)::cI o ((o,x)::L)) n=st E ((o,y)::L) n:=by
 simp only[st];congr 1;rw[iS];funext k;unfold fS;by_cases hk:k=o;subst hk;simp;have h2:(k==o)=false:=by simp[hk]
 simp[hp,List.lookup_cons,h2,hk]
theorem vI{cx:Cx}{w:World}{o T k Te sz:Nat}{cs:List LV}{ys:List (List SV)}(c:LV)(h:ObjOk cx w o (.bx T cs k Te sz ys)):ObjOk cx w o (.bx T (cs.set k c) k Te sz ys):=by
 obtain⟨b,vs,v,h1,h2,h3,h4,h5⟩:=h;exact⟨b,vs,v,h1,h2,by rw[List.set_set];exact h3,by rw[List.length_set];exact h4,h5⟩
theorem bJ(o k:Nat){q T Te sz:Nat}{cs cs':List LV}{ys:List (List SV)}(hb:hp L o=some (.box T cs):=by rfl)(hk:cs[k]?=some (.ref q):=by rfl)(hq:hp L q=some (.rs Te sz ys):=by rfl)(hne':(q==o)=false:=by rfl)
 (hcs:cs.set k (.v undef)=cs':=by rfl)(h:LGo P r N D B Ψ todo (st E ((o,.bx T cs' k Te sz ys)::cI q (cI o L)) n)):LGo P r N D B Ψ todo (st E L n):=by
 subst hcs;have hne:q≠o:=by simpa using hne'
 refine sJ o (Te:=Te) (sz:=sz) (ys:=ys) hb hk (cI q (cI o L)) (fun p x hx=>?_) (fun cx w v hok hv=>?_) (LGo.tell o (.bx T (cs.set k (.v undef)) k Te sz ys) (x:= .bx T cs k Te sz ys) (by simp) (fun cx w hx=>vI _ hx) ?_);rw[o9]at hx;by_cases hpq:p=q;rw[if_pos hpq]at hx;cases hx
 rw[if_neg hpq,o9]at hx;by_cases hpo:p=o;rw[if_pos hpo]at hx;cases hx
 rw[if_neg hpo]at hx;exact⟨hx,hpo⟩;obtain⟨hAq,hsz,us,g1,g2,g3⟩:=hok.ok q _ hq;simp only[V]at hv;obtain⟨_,rfl,hr⟩:=hv;refine⟨hr,hsz,⟨us,g1,g2,g3⟩,fun g hg=>⟨q,_,hne,hq,?_,.inl hg⟩⟩;rw[o9,if_pos rfl];rw[yh];exact h
theorem aS(o k Te sz:Nat){T:Nat}{cs cs':List LV}(hb:hp L o=some (.box T cs):=by rfl)(hk:cs[k]?=some (.v (.slice none 0 0)):=by rfl)
 (hcs:cs.set k (.v undef)=cs':=by rfl)(h:LGo P r N D B Ψ todo (st E ((o,.bx T cs' k Te sz [])::cI o L) n)):LGo P r N D B Ψ todo (st E L n):=by
 subst hcs;refine sJ o (Te:=Te) (sz:=sz) (ys:=[]) hb hk (cI o L) (fun p x hx=>?_) (fun cx w v hok hv=>?_) (LGo.tell o (.bx T (cs.set k (.v undef)) k Te sz []) (x:= .bx T cs k Te sz []) (by simp) (fun cx w hx=>vI _ hx) ?_);rw[o9]at hx;by_cases hpo:p=o;rw[if_pos hpo]at hx;cases hx
 rw[if_neg hpo]at hx;exact⟨hx,hpo⟩;have:=hv.val;subst this;exact⟨rfl,by simp,⟨[],World.ownsRow_nil w 0 Te sz,by simp[Vs],by simp⟩,fun g hg=>by simp[bk]at hg⟩;rw[yh];exact h
end
end Go.Proofs.YtgkhfpfjokagfaaGreatDoor
namespace Go.Proofs.YtgkhfpfjokagfaaGreatDoor
theorem sD{P:Program}{y:Nat}{C:List (Nat×LO)→Prop}:∀(xs:List (List LV)) (S:Nat→List (Nat×LO)),(∀j,j≤xs.length→C (S j))→
 (∀j (h:j<xs.length),Yld P y xs[j] (S j) true (S (j+1)))→YRun P y C xs (S 0) (S xs.length)
 |[],S,hC,_=>.nil (hC 0 (by simp))
 |x::xs,S,hC,hy=>by
  refine .go (hC 0 (by simp)) (hy 0 (by simp)) ?_;exact sD xs (fun j=>S (j+1)) (fun j hj=>hC (j+1) (by simpa using hj)) (fun j hj=>hy (j+1) (by simpa using hj))
section
variable{P:Program}{N:Nat}{D:List Nat}{B:bG}{Ψ:Exit→Act→World→Prop}{todo:List Item}
variable{E:List (Nat×bB)}{L:List (Nat×LO)}{n:Nat}
theorem lI{f:Operand}{ps:Array Tmp}{assign body:Code}{gf:Nat}{cap:List LV}(L':FuncId→Code→Code→List (Nat×LO))
 (hit:∀fn ac bc,assign=ac→body=bc→LC P gf (n+2) (.yld (n+1)::cap) (L++[(n,.raw (.deferred (some []))),(n+1,.loop fn N E ps ac bc .ready none)]) (.tup []) (L' fn ac bc) 0)
 (h:∀fn,LGo P none N (n::D) B Ψ todo (st E ((n+1,.loop fn N E ps assign body .exhausted none)::L' fn assign body) (n+2)))
 (hend:∀fn,hp (L' fn assign body) (n+1)=some (.loop fn N E ps assign body .ready none):=by exact fun _=>rfl)
 (hf:aP (en E) f=some (true,.fn (.func gf) [] cap):=by rfl)(hL:L.map (·.1)=List.range n:=by rfl):
 LGo P none N D B Ψ (.code (.rangeFunc f ps assign body)::todo) (st E L n):=
 LGo.rangeFunc (L':=fun fn=>L' fn assign body) (s':= .ready) (pd:=none) hf hL (by simp) (fun fn=>hit fn _ _ rfl rfl) hend (fun fn=>h fn)
theorem xN{f:Operand}{ps:Array Tmp}{assign body:Code}{gf:Nat}{cap:List LV}(L':FuncId→Code→Code→List (Nat×LO))
 (hit:∀fn ac bc,assign=ac→body=bc→LC P gf (n+2) (.yld (n+1)::cap) (L++[(n,.raw (.deferred (some []))),(n+1,.loop fn N E ps ac bc .ready none)]) (.tup []) (L' fn ac bc) 0)
 (h:∀fn,∀cx a w,Rel B N (n::D) (st E ((n+1,.loop fn N E ps assign body .exhausted (some .ret))::L' fn assign body) (n+2)) cx a w→Ψ .ret a w)
 (hend:∀fn,hp (L' fn assign body) (n+1)=some (.loop fn N E ps assign body .done (some .ret)):=by exact fun _=>rfl)
 (hf:aP (en E) f=some (true,.fn (.func gf) [] cap):=by rfl)(hL:L.map (·.1)=List.range n:=by rfl):
 LGo P none N D B Ψ (.code (.rangeFunc f ps assign body)::todo) (st E L n):=
 LGo.rangeFunc (L':=fun fn=>L' fn assign body) (s':= .done) (pd:=some .ret) hf hL (by simp) (fun fn=>hit fn _ _ rfl rfl) hend (fun fn=>h fn)
theorem Dk(m:Nat)(E1:List (Nat×bB)){y fn:Nat}{lvs:List LV}{L1:List (Nat×LO)}{b:Bool}{ps:Array Tmp}{assign body:Code}
 (hm:L.length=m:=by rfl)(hL:L.map (·.1)=List.range m:=by rfl)(hlt:(L.all fun p=>p.2.lt m)=true:=by first|rfl|simp[LO.lt,an,LV.lt,aq])(hargs:an m lvs=true:=by rfl)(hy:hp L y=some (.loop fn N E ps assign body .ready none):=by rfl)
 (hps:ps.size=lvs.length:=by rfl)(hpN:∀p∈ps.toList,p<N)(hos:L1.map (·.1)=L.map (·.1):=by rfl)
 (hA:∀(l:Nat) (B:bG),(∀o,B.cx.A o↔o<m)→B.md=cf B.cx (hp L)→LGo P (some l) N [] B (nC B N (st E1 L m)) [.code assign] (st (Ax ps.toList lvs E) L m))
 (hB:∀(l:Nat) (B:bG),(∀o,B.cx.A o↔o<m)→B.md=cf B.cx (hp L)→
  LGo P (some l) N [] B (RoundEnd B N L1 m y fn E ps assign body b) [.code body] (st E1 ((y,.loop fn N E ps assign body .busy none)::L) m)):
 Yld P y lvs L b L1:=by
 subst hm;exact Yld.of_go hL (fun p hp'=>List.all_eq_true.1 hlt p hp') hargs hy hy hps hpN hos hA hB
theorem kA(m m1:Nat)(E1:List (Nat×bB))(La:List (Nat×LO)){y fn:Nat}{lvs:List LV}{L1:List (Nat×LO)}{b:Bool}{ps:Array Tmp}{assign body:Code}
 (hm:L.length=m:=by rfl)(hL:L.map (·.1)=List.range m:=by rfl)(hlt:(L.all fun p=>p.2.lt m)=true:=by first|rfl|simp[LO.lt,an,LV.lt,aq])(hargs:an m lvs=true:=by rfl)(hy:hp L y=some (.loop fn N E ps assign body .ready none):=by rfl)(hya:hp La y=some (.loop fn N E ps assign body .ready none):=by rfl)
 (hps:ps.size=lvs.length:=by rfl)(hpN:∀p∈ps.toList,p<N)(hos:L1.map (·.1)=L.map (·.1):=by rfl)
 (hA:∀(l:Nat) (B:bG),(∀o,B.cx.A o↔o<m)→B.md=cf B.cx (hp L)→LGo P (some l) N [] B (nC B N (st E1 La m1)) [.code assign] (st (Ax ps.toList lvs E) L m))
 (hB:∀(l:Nat) (B:bG),(∀o,B.cx.A o↔o<m)→B.md=cf B.cx (hp L)→
  LGo P (some l) N [] B (RoundEnd B N L1 m y fn E ps assign body b) [.code body] (st E1 ((y,.loop fn N E ps assign body .busy none)::La) m1)):
 Yld P y lvs L b L1:=by
 subst hm;exact Yld.of_go hL (fun p hp'=>List.all_eq_true.1 hlt p hp') hargs hy hya hps hpN hos hA hB
theorem RoundEnd.go{L1:List (Nat×LO)}{m y fn:Nat}{E2:List (Nat×bB)}{Le:List (Nat×LO)}{ps:Array Tmp}{assign body:Code}
 (hy:hp Le y=some (.loop fn N E ps assign body .busy none):=by rfl)(hL:∀o x,hp L1 o=some x→o≠y→hp Le o=some x)(h1:hp L1 y=some (.loop fn N E ps assign body .ready none):=by rfl):
 ∀cx a w,Rel B N [] (st E2 Le m) cx a w→RoundEnd B N L1 m y fn E ps assign body true .normal a w:=
 fun cx a w hr=>⟨cx,Le,E2,hr,hy,hL,rfl,h1⟩
theorem RoundEnd.ret{L1:List (Nat×LO)}{m y fn:Nat}{E2:List (Nat×bB)}{Le:List (Nat×LO)}{ps:Array Tmp}{assign body:Code}
 (hy:hp Le y=some (.loop fn N E ps assign body .busy none):=by rfl)(hL:∀o x,hp L1 o=some x→o≠y→hp Le o=some x)(h1:hp L1 y=some (.loop fn N E ps assign body .done (some .ret)):=by rfl):
 ∀cx a w,Rel B N [] (st E2 Le m) cx a w→RoundEnd B N L1 m y fn E ps assign body false .ret a w:=
 fun cx a w hr=>⟨cx,Le,E2,hr,hy,hL,rfl,h1⟩
theorem RoundEnd.exit{L1:List (Nat×LO)}{m y fn id:Nat}{E2:List (Nat×bB)}{Le:List (Nat×LO)}{ps:Array Tmp}{assign body:Code}
 (hy:hp Le y=some (.loop fn N E ps assign body .busy none):=by rfl)(hL:∀o x,hp L1 o=some x→o≠y→hp Le o=some x)(h1:hp L1 y=some (.loop fn N E ps assign body .done (some (.exit id))):=by rfl):
 ∀cx a w,Rel B N [] (st E2 Le m) cx a w→RoundEnd B N L1 m y fn E ps assign body false (.exit id) a w:=
 fun cx a w hr=>⟨cx,Le,E2,hr,hy,hL,rfl,h1⟩
end
end Go.Proofs.YtgkhfpfjokagfaaGreatDoor
namespace Go.Proofs.YtgkhfpfjokagfaaGreatDoor
section
variable{P:Program}{r:Option Nat}{N:Nat}{D:List Nat}{B:bG}{Ψ:Exit→Act→World→Prop}{todo:List Item}
variable{E:List (Nat×bB)}{L:List (Nat×LO)}{n:Nat}
theorem l8{σ:Type}(Q:σ→Prop)(EE:σ→List (Nat×bB))(LL:σ→List (Nat×LO))(m:Nat)(Er:List (Nat×bB)){x:Item}(hEr:KeepE (en E) Er)
 (hr:∀a,Q a→LGo P r N D B Ψ todo (st (EE a++Er) (LL a) m))(h:(∀a,Q a→LGo P r N D B Ψ todo (st (EE a++Er) (LL a) m))→LGo P r N D B Ψ (x::todo) (st E L n)):LGo P r N D B Ψ (x::todo) (st E L n):=h hr
end
end Go.Proofs.YtgkhfpfjokagfaaGreatDoor
namespace Go.Proofs.YtgkhfpfjokagfaaGreatDoor
section
variable{P:Program}{r:Option Nat}{N:Nat}{D:List Nat}{B:bG}{all:Array Oper}{K:List (Nat×Ct)→St→Prop}
variable{i:Nat}{ops:List Oper}{tr:List (Nat×Ct)}{E:List (Nat×bB)}{L:List (Nat×LO)}{n:Nat}{g:Bool}{gn:List (Nat×bB)}
variable{d ty:Nat}{pos:String}{aft:Array Edge}{gd:Option (Nat×Bool)}
theorem Hb{op:Op}{xs:List Operand}{es:List bB}(out:LV)
 (ho:all[i]?=some ⟨some d,op,ty,pos,aft,gd⟩:=by rfl)(hg:GuardOk (en E) all gd g gn:=by first|exact gN|exact gS rfl rfl)
 (hops:op.operands.toList=xs:=by rfl)(hx:xs.map (aP (en E))=es.map some:=by rfl)(hgf:g=false:=by first|rfl|(simp;done)|simp_all)
 (h:Reg P r N D B all (i+1) ops ((i,bK gn xs es (some d) (g,out) [])::tr) (st ((d,(g,out))::E) L n) K):
 Reg P r N D B all i (⟨some d,op,ty,pos,aft,gd⟩::ops) tr (st E L n) K:=by
 have hl:(Oper.mk (some d) op ty pos aft gd).op.operands.toList=xs:=hops;refine dF (es:=es) (rd:=[]) (out:=out) ho hg (by rw[hl];exact bw hx) (by simp) (fun hgt=>?_) (by rw[hl];exact h);rw[hgf]at hgt;cases hgt
end
end Go.Proofs.YtgkhfpfjokagfaaGreatDoor
namespace Go.Proofs.YtgkhfpfjokagfaaGreatDoor
open Go.ChangeShapes Go.WideShapes Go.Deep Go.RowKit Go.ChangeAt
theorem vM(b off q:Nat):(⟨b,off,none⟩:Addr).add q=⟨b,off+q,none⟩:=by
 unfold Addr.add;split;rename_i h;rw[h];rfl;rfl
section
variable{H:Type}{enc:TypeId×Value→H}{P:Program}{w:World}
def Rd(enc:TypeId×Value→H)(P:Program)(w:World)(t:TypeId)(Sh:List SV→Prop):Prop:=
 ∀(n:Nat) (cs:List Value) (x:DataW H×List MemPlace),DataW.trod enc P w 0 (fun _=>true) true n t cs=some x→
  ∃ss:List SV,Sh ss∧ss.length=cs.length∧(∀(j:Nat) (s:SV) (v:Value),ss[j]?=some s→cs[j]?=some v→VS (cv w) w s v∧v.oneCell'=true)
theorem Rd.mono{t:TypeId}{Sh Sh':List SV→Prop}(h:Rd enc P w t Sh)(hs:∀ss,Sh ss→Sh' ss):Rd enc P w t Sh':=fun n cs x hx=>by
 obtain⟨ss,h1,h2⟩:=h n cs x hx;exact⟨ss,hs ss h1,h2⟩
theorem Rd.one{t:TypeId}{S:SV→Prop}(h:∀n cs x,DataW.trod enc P w 0 (fun _=>true) true n t cs=some x→∃s v,cs=[v]∧S s∧VS (cv w) w s v∧v.oneCell'=true):Rd enc P w t (fun ss=>∃s,ss=[s]∧S s):=fun n cs x hx=>by
 obtain⟨s,v,rfl,h1,h2,h3⟩:=h n cs x hx;refine⟨[s],⟨s,rfl,h1⟩,rfl,fun j s' v' hs hv=>?_⟩;cases j with
 |zero=>simp at hs hv;subst hs;subst hv;exact⟨h2,h3⟩
 |succ j=>simp at hs
theorem Rd.int{t:TypeId}{k:IntKind}(ht:P.underlying t=some (.int k)):Rd enc P w t (fun ss=>∃s,ss=[s]∧∃n,s= .val (.int k n)∧k.min≤n∧n≤k.max):=
 Rd.one fun n cs x hx=>by
  obtain⟨m,rfl,_,hw⟩:=DataW.trod_int ht hx;simp only[Lit.wf,Bool.and_eq_true,decide_eq_true_eq]at hw;exact⟨_,_,rfl,⟨m,rfl,hw⟩,by simp[VS],rfl⟩
theorem Rd.bool{t:TypeId}(ht:P.underlying t=some .bool):Rd enc P w t (fun ss=>∃s,ss=[s]∧∃b,s= .val (.bool b)):=
 Rd.one fun n cs x hx=>by
  obtain⟨m,rfl,_⟩:=DataW.trod_bool ht hx;exact⟨_,_,rfl,⟨m,rfl⟩,by simp[VS],rfl⟩
theorem Rd.string{t:TypeId}(ht:P.underlying t=some .string):Rd enc P w t (fun ss=>∃s,ss=[s]∧∃l:List UInt8,s= .val (.string ⟨l.toArray⟩)∧l.length≤maxLen):=
 Rd.one fun n cs x hx=>by
  obtain⟨⟨m⟩,rfl,_,hm⟩:=DataW.trod_string ht hx;refine⟨.val (.string ⟨m⟩),_,rfl,⟨m.toList,by rw[Array.toArray_toList],by rw[Array.length_toList];exact hm⟩,by simp[VS],rfl⟩
theorem Rd.struct{t:TypeId}{fs:Array Field}{S:Nat→SV→Prop}(ht:P.underlying t=some (.struct fs))(hone:oneCellFields P fs=true)(hC:P.cellsOf t=fs.size)
 (hF:∀j f,fs[j]?=some f→Rd enc P w f.type (fun ss=>∃s,ss=[s]∧S j s)):Rd enc P w t (fun ss=>ss.length=fs.size∧∀j s,ss[j]?=some s→S j s):=fun n cs x hx=>by
 obtain⟨ys,m,_,_,hlen,hyl,hf⟩:=DataW.trod_struct ht hx;rw[hC]at hlen;have one:∀j,j<fs.size→∃s,S j s∧∀v,cs[j]?=some v→VS (cv w) w s v∧v.oneCell'=true:=by
  intro j hj;have hfj:fs[j]?=some fs[j]:=Array.getElem?_eq_getElem hj;obtain⟨ho,hk⟩:=hone_of hone j _ hfj;have h1:=hf j _ hfj;rw[ho,hk]at h1;have hcj:(cs.drop j).take 1=[cs[j]'(by omega)]:=by rw[List.drop_eq_getElem_cons (by omega)];rfl
  rw[hcj,List.getElem?_eq_getElem (by omega)]at h1;obtain⟨ss,⟨s,rfl,hs⟩,_,hv⟩:=hF j _ hfj m _ _ h1;refine⟨s,hs,fun v hvj=>?_⟩;rw[List.getElem?_eq_getElem (by omega)]at hvj;cases hvj
  exact hv 0 s _ rfl rfl
 have all:∀k,k≤fs.size→∃ss:List SV,ss.length=k∧∀j s,ss[j]?=some s→S j s∧∀v,cs[j]?=some v→VS (cv w) w s v∧v.oneCell'=true:=by
  intro k;induction k with
  |zero=>intro _;exact⟨[],rfl,by simp⟩
  |succ k ih=>
   intro hk;obtain⟨ss,h1,h2⟩:=ih (by omega);obtain⟨s,h3,h4⟩:=one k (by omega);refine⟨ss++[s],by simp[h1],fun j s' hs=>?_⟩;rcases Nat.lt_or_ge j k with hlt|hge
   rw[List.getElem?_append_left (by omega)]at hs;exact h2 j s' hs;have hjl:=(List.getElem?_eq_some_iff.1 hs).1;simp[h1]at hjl;have hjk:j=k:=by omega
   subst hjk;rw[List.getElem?_append_right (by omega),h1,Nat.sub_self]at hs;simp at hs;subst hs;exact⟨h3,h4⟩
 obtain⟨ss,h1,h2⟩:=all fs.size (Nat.le_refl _);exact⟨ss,⟨h1,fun j s hs=>(h2 j s hs).1⟩,by rw[h1,hlen],fun j s v hs hv=>(h2 j s hs).2 v hv⟩
theorem Rd.slice{t e:TypeId}{sz:Nat}{Sh:List SV→Prop}(ht:P.underlying t=some (.slice e))(hC:P.cellsOf e=sz)(h0:0<sz)(he:Rd enc P w e Sh):
 Rd enc P w t (fun ss=>∃s,ss=[s]∧∃xs:List (List SV),s= .sl sz xs∧xs.length≤maxLen∧∀x∈xs,Sh x∧x.length=sz):=
 Rd.one fun n cs x hx=>by
  rcases open_slice ht hx with⟨rfl,_⟩|⟨a,len,cap,m,k,D,Pl,rfl,_,hl,hm,hmm,_,hi⟩
  exact⟨.sl sz [],_,rfl,⟨[],rfl,by simp,by simp⟩,by simp[VS,tA],rfl⟩;have hmc:m=cap:=by simpa using hmm
  subst hmc;rw[hC]at hi;by_cases hl0:len=0;subst hl0;refine⟨.sl sz [],_,rfl,⟨[],rfl,by simp,by simp⟩,?_,rfl⟩;simp only[VS];exact .inl ⟨.inr ⟨a,m,rfl,hm⟩,trivial⟩;have hspot:a.spot=none:=by
   obtain⟨cs',hc,_⟩:=hi 0 (by omega);obtain⟨_,hcl,hat⟩:=World.cells?_some hc;have:=hat 0 h0;rw[List.getElem?_eq_getElem (by omega)]at this;cases hs:a.spot with
   |none=>rfl
   |some q=>
    exfalso;simp only[Nat.zero_mul]at this;have e1:((a.add 0).add 0).spot.isSome=true:=by simp[Addr.add,hs]
    unfold World.cell? at this;split at this;rw[if_pos e1]at this;cases this
    cases this
  obtain⟨b,off,sp⟩:=a;simp only at hspot;subst hspot;have hadd:∀q,(⟨b,off,none⟩:Addr).add q=⟨b,off+q,none⟩:=by intro q;exact vM b off q
  have elem:∀i,i<m→∃ss,Sh ss∧ss.length=sz∧VSC (cv w) w b (off+i*sz) ss∧off+i*sz+sz≤cv w b:=by
   intro i him;obtain⟨cs',hc,ht'⟩:=hi i him;obtain⟨_,hcl,hat⟩:=World.cells?_some hc;obtain⟨ss,h1,h2,h3⟩:=he k cs' _ ht';have hcell:∀q,q<sz→w.cell? ⟨b,off+i*sz+q,none⟩=cs'[q]?:=by
    intro q hq;have:=hat q hq;rw[hadd]at this;have e2:(⟨b,off+i*sz,none⟩:Addr).add q=⟨b,off+i*sz+q,none⟩:=vM b _ q;rw[e2]at this;exact this
   refine⟨ss,h1,by omega,?_,?_⟩;have gen:∀(ts:List SV) (p:Nat),p+ts.length≤sz→(∀q s,ts[q]?=some s→ss[p+q]?=some s)→VSC (cv w) w b (off+i*sz+p) ts:=by
    intro ts;induction ts with
    |nil=>intro p _ _;simp[VSC]
    |cons s ts ih=>
     intro p hp hss;simp only[List.length_cons]at hp;simp only[VSC];have hs0:=hss 0 s rfl;rw[Nat.add_zero]at hs0;have hcp:cs'[p]?=some (cs'[p]'(by omega)):=List.getElem?_eq_getElem (by omega)
     obtain⟨g1,g2⟩:=h3 p s _ hs0 hcp;refine⟨⟨_,(hcell p (by omega)).trans hcp,g2,g1⟩,?_⟩;have:=ih (p+1) (by omega) (fun q s' hq=>by have:=hss (q+1) s' (by simpa using hq);rwa [show p+(q+1)=p+1+q from by omega]at this)
     rwa [show off+i*sz+(p+1)=off+i*sz+p+1 from by omega]at this
   have:=gen ss 0 (by omega) (fun q s hq=>by rw[Nat.zero_add];exact hq)
   rwa [Nat.add_zero]at this
   have hlast:=hcell (sz-1) (by omega);rw[List.getElem?_eq_getElem (by omega)]at hlast;unfold World.cell? at hlast;unfold cv;split at hlast;rename_i c t' f hh;simp only[Option.isSome_none,Bool.false_eq_true,if_false]at hlast;have:=(Array.getElem?_eq_some_iff.1 hlast).1;simp only at hh⊢;rw[hh];simp only;omega;cases hlast
  have all:∀q i,i+q=len→∃xs:List (List SV),xs.length=q∧(∀x∈xs,Sh x∧x.length=sz)∧VSR (cv w) w b (off+i*sz) sz xs:=by
   intro q;induction q with
   |zero=>intro i _;exact⟨[],rfl,by simp,by simp[VSR]⟩
   |succ q ih=>
    intro i hiq;obtain⟨xs,g1,g2,g3⟩:=ih (i+1) (by omega);obtain⟨ss,k1,k2,k3,_⟩:=elem i (by omega);refine⟨ss::xs,by simp[g1],fun x hx=>?_,?_⟩;rcases List.mem_cons.1 hx with rfl|hx
    exact⟨k1,k2⟩;exact g2 x hx;simp only[VSR];refine⟨k2,k3,?_⟩
    rwa [show off+(i+1)*sz=off+i*sz+sz from by rw[Nat.succ_mul];omega]at g3
  obtain⟨xs,g1,g2,g3⟩:=all len 0 (by omega);obtain⟨_,_,_,_,hlim⟩:=elem (len-1) (by omega);refine⟨.sl sz xs,_,rfl,⟨xs,rfl,by omega,g2⟩,?_,rfl⟩;simp only[VS];refine .inr ⟨b,off,m,by rw[g1],by omega,hm,?_,by simpa using g3⟩;rw[g1];have:(len-1)*sz+sz=len*sz:=by rw[←Nat.succ_mul];congr 1;omega
  omega
end
def DD(w:World):Cx:=⟨cv w,fun o=>o<0,fun _=>undef,fun _=>none⟩
theorem Amb.of_heap{w:World}(h:∀p∈oL,p.2≠[]∧∃T fr,w.heap[p.1]?=some (.cells p.2.toArray T fr))
 (hs:∀b∈pq,∃T fr tp p,w.heap[b]?=some (.cells #[.iface tp p] T fr):=by intro b hb;simp[pq]at hb):Amb (DD w).pr w:=by
 refine⟨fun p hp=>?_,fun b hb=>?_⟩;obtain⟨h1,T,fr,h2⟩:=h p hp;refine⟨?_,T,fr,h2⟩;show 0<cv w p.1;unfold cv;rw[h2];exact List.length_pos_iff.2 h1;obtain⟨T,fr,tp,p,h2⟩:=hs b hb;refine⟨?_,T,fr,tp,p,h2⟩;show 0<cv w b;unfold cv;rw[h2];simp
theorem PC.run{P:Program}{f:FuncId}{lvs:List LV}{out:LV}(h:PC P f lvs out){w:World}{vs:List Value}(hv:Vs (DD w) w lvs vs)(ham:Amb (DD w).pr w:=by refine⟨?_,?_⟩<;>(intro p hp;first|(simp[oL]at hp;done)|(simp[pq]at hp;done))):
 Calls P f vs.toArray w fun e w'=>∃v cx',e= .returned v∧Below w.heap.size w w'∧V cx' w' out v:=by
 have hok:HOk (fun _=>True) 0 (DD w) (hp []) w:=⟨fun o x hx=>by simp at hx,fun o x b hx=>by simp at hx,fun o o' x x' b _ hx=>by simp at hx,fun b hb=>by
  have hb':0<cv w b:=hb;unfold cv at hb';split at hb';rename_i hh;exact(Array.getElem?_eq_some_iff.1 hh).1;omega⟩
 refine(h.lc.go (DD w) w vs (fun o=>Iff.rfl) hok ham hv).mono ?_;rintro e w' ⟨v,cx',rfl,t,hvo⟩;exact⟨v,cx',rfl,⟨t.grow.os,t.grow.tape,t.grow.output,t.grow.size,fun b hb=>t.grow.same b hb (fun⟨o,x,hx,_⟩=>by simp at hx)⟩,hvo⟩
theorem wu{w w':World}(h:Below w.heap.size w w')(may:MemPlace→Prop):w.keptBut w' may:=by
 refine⟨h.os,h.output,fun i hi=>?_⟩;rw[h.block i hi];cases w.heap[i]? with
 |none=>rfl
 |some o=>
  cases o<;>first|rfl|exact⟨rfl,rfl,rfl,fun _ _=>rfl⟩|exact .inr ⟨rfl,rfl⟩
section
variable{H:Type}{enc:TypeId×Value→H}{P:Program}
theorem rA{f:Func}{s:ChangeSpec}{apart fresh handsOn again:Bool}{W W':World}{args:Array Value}{v:Value}{ds gs:List (DataW H)}{before pa pv:List MemPlace}
 (hW:DataW.Whole enc P f.params.toList s.vars apart W args.toList ds gs before)
 (hres:∀(b:Nat) (sp:Nat→Bool) (hd:Bool),DataW.TrodAll enc P W' b sp hd f.resultTypes.toList (v.resultList f.resultTypes.size) (s.fn H (ds++gs)).results [])
 (hargs:∀sp:Nat→Bool,(∀p∈before,sp p.block=true)→DataW.TrodAll enc P W' 0 sp true f.params.toList args.toList (s.fn H (ds++gs)).args pa)
 (hvars:∀sp:Nat→Bool,(∀p∈before,sp p.block=true)→DataW.TrodVars enc P W' sp s.vars (s.fn H (ds++gs)).vars pv)
 (hps:before=pa++pv)(hb:Below W.heap.size W W')
 (hok:∀(j:Nat) (t:TypeId) (r:Value),f.resultTypes[j]?=some t→(v.resultList f.resultTypes.size)[j]?=some r→Value.okWide P W' .any 0 t r):
 s.post enc P f apart fresh handsOn again W args v W':=by
 have hold:∀p∈before,(fun b=>decide (b<W.heap.size)) p.block=true:=fun p hp=>by simpa using hW.lt p hp
 have hlt:=fun p hp=>hW.lt p hp;refine⟨ds,gs,before,[],pa,pv,hW,hres _ _ _,hargs _ hold,hvars _ hold,World.keptBut_mono (fun p hp=>⟨hp,?_⟩) (wu hb (·∈before)),fun _=>?_⟩;rw[hps,List.mem_append]at hp;exact Or.inr hp;obtain⟨_,_,_,_,_,hz,hn⟩:=hW;refine⟨hok,_,_,([]++pa)++pv,⟨[]++pa,pv,trodAll_append (hargs _ (fun _ _=>rfl)) (hres _ _ _),hvars _ (fun _ _=>rfl),rfl,?_,?_⟩,?_⟩;intro b off hp;have hp':MemPlace.cell b off∈before:=by rw[hps];simpa using hp
 rw[hb.frozen (p:=⟨b,off,none⟩) (hlt _ hp')];exact hz b off hp';intro ha;have:=hn ha;rw[hps]at this;simpa using this;intro p hp _;rw[hps];simpa using hp
end
end Go.Proofs.YtgkhfpfjokagfaaGreatDoor
namespace Go.Proofs.YtgkhfpfjokagfaaGreatDoor
theorem PC.args{P:Program}{f:FuncId}{lvs lvs':List LV}{out:LV}(h:PC P f lvs out)(hl:an 0 lvs'=true)(hv:∀cx w vs,Vs cx w lvs' vs→Vs cx w lvs vs):PC P f lvs' out:=
 ⟨⟨h.lc.entr,hl,h.lc.rng,h.lc.hlt,h.lc.hos,fun cx w vs hA hH ham hvs=>h.lc.go cx w vs hA hH ham (hv cx w vs hvs)⟩⟩
section
variable{P:Program}{r:Option Nat}{N:Nat}{D:List Nat}{B:bG}{Ψ:Exit→Act→World→Prop}{todo:List Item}
variable{E:List (Nat×bB)}{L:List (Nat×LO)}{n:Nat}
theorem B2{t:Nat}(ht:P.underlying t=some .bool)(x y:Operand)(a b:Bool):∀w,(do eqGuard .eql t x y (.bool a) (.bool b);binOp .eql t (.bool a) (.bool b):Sem Value).run P w= .ok (.bool (decide (a=b))) w:=by
 intro w;have:=run_equal_bool (P:=P) w t a b ht;cases a<;>cases b<;>simp_all [eqGuard,binOp]
end
theorem vt{sz:Nat}:∀(xs:List (List SV)) (j:Nat) (ev:List SV),(∀e∈xs,e.length=sz)→ev.length=sz→j<xs.length→(xs.set j ev).flatten=xs.flatten.take (j*sz)++ev++xs.flatten.drop (j*sz+sz)
 |[],j,_,_,_,h=>by simp at h
 |x::xs,0,ev,hs,_,_=>by
  have hx:=hs x (by simp);rw[List.set_cons_zero,List.flatten_cons,List.flatten_cons,Nat.zero_mul,List.take_zero,List.nil_append,Nat.zero_add,←hx,List.drop_left]
 |x::xs,j+1,ev,hs,he,h=>by
  have hx:=hs x (by simp);have ih:=vt xs j ev (fun e h'=>hs e (by simp[h'])) he (by simpa using h);rw[List.set_cons_succ,List.flatten_cons,List.flatten_cons,ih,show(j+1)*sz=sz+j*sz from by rw[Nat.succ_mul];omega,←hx,List.take_length_add_append,show x.length+j*x.length+x.length=x.length+(j*x.length+x.length)from by omega,List.drop_length_add_append];simp
theorem uK{sz:Nat}{xs:List (List SV)}{ev:List SV}(hs:∀e∈xs,e.length=sz)(he:ev.length=sz)(j:Nat):∀e∈xs.set j ev,e.length=sz:=fun e h=>by
 rcases List.mem_or_eq_of_mem_set h with h|rfl
 exact hs e h;exact he
theorem ea{cx:Cx}{w:World}:∀(k:Nat) (l:List LV) (x:List Value),Vs cx w l x→Vs cx w (l.take k) (x.take k)∧Vs cx w (l.drop k) (x.drop k)
 |0,l,x,h=>⟨by simp[Vs],by simpa using h⟩
 |k+1,[],x,h=>by
  simp only[Vs]at h;subst h;simp[Vs]
 |k+1,c::l,x,h=>by
  simp only[Vs]at h;obtain⟨y,r,rfl,h1,h2⟩:=h;obtain⟨i1,i2⟩:=ea k l r h2;refine⟨?_,by simpa using i2⟩;rw[List.take_succ_cons,List.take_succ_cons];simp only[Vs];exact⟨y,_,rfl,h1,i1⟩
section
variable{P:Program}{r:Option Nat}{N:Nat}{D:List Nat}{B:bG}{all:Array Oper}{K:List (Nat×Ct)→St→Prop}
variable{i:Nat}{ops:List Oper}{tr:List (Nat×Ct)}{E:List (Nat×bB)}{L:List (Nat×LO)}{n:Nat}
variable{ty:Nat}{pos:String}{aft:Array Edge}
theorem xK{T e sz:Nat}(hF:dO P T sz){x y:Operand}{o off:Nat}{xs:List (List SV)}{ds:List LV}(j:Nat)(ev:List SV)
 (ho:all[i]?=some ⟨none,.store T x y,ty,pos,aft,none⟩:=by rfl)
 (hx:aP (en E) x=some (true,.ptr o off):=by rfl)(hy:aP (en E) y=some (true,.agg ds):=by rfl)(hd:ds=ev.map LV.sv:=by rfl)(h1:(ev.map LV.sv).all LV.one=true:=by simp[LV.one])(hb:hp L o=some (.rs e sz xs):=by rfl)(he:ev.length=sz:=by rfl)
 (hj:j<xs.length)(hoff:off=j*sz:=by omega)(h0:0<sz:=by decide)
 (h:Reg P r N D B all (i+1) ops ((i,⟨bA [x,y] [(true,.ptr o off),(true,.agg ds)],none,(true,.v undef),[],[(o,.rs e sz xs)],[(o,.rs e sz (xs.set j ev))],[]⟩)::tr) (st E ((o,.rs e sz (xs.set j ev))::L) n) K):
 Reg P r N D B all i (⟨none,.store T x y,ty,pos,aft,none⟩::ops) tr (st E L n) K:=
 Reg.set (es:=[(true,.ptr o off),(true,.agg ds)]) (rd:=[]) ho gN ⟨_,_,rfl,hx,_,_,rfl,hy,rfl⟩ (by simp) hb (bO (by simp) (by simp) fun md n0 cx H ρ w hok _ hHi _ hv=>by
  subst hd;obtain⟨v1,v2⟩:=Vs.two hv;simp only[bD]at v1 v2;have hob:=hHi o (.rs e sz xs) (by simp);obtain⟨hA,hsz,vs,hown,hvs,hone⟩:=hok.ok o _ hob;simp only[V]at v1 v2;obtain⟨_,b,hbk,hp1⟩:=v1;obtain⟨us,hu,hus⟩:=v2;rcases hown.2 with⟨e1,e2⟩|⟨gb,cap,cur,e1,eb,e2,e3,e4,e5,e6⟩
  omega;have hbk':=hbk;rw[e1]at hbk;simp only[bk,Option.some.injEq]at hbk;subst hbk;have hul:us.length=sz:=by have:=hus.length;simpa[he]using this
  have hjs:j*sz+sz≤xs.length*sz:=by rw[←Nat.succ_mul];exact Nat.mul_le_mul_right _ hj
  have hcs:xs.length*sz≤cur.size:=by rw[e5];exact Nat.mul_le_mul_right _ e3
  have hst:=run_storeCells_at P gb (j*sz) e us 0 cur w e2 (by omega) (Vs.ones h1 hus);have hlen:(xs.set j ev).length=xs.length:=List.length_set;rw[←hoff]at hst;refine⟨.skip,undef,w.setRow gb (cur.toList.take (off+0)++us++cur.toList.drop (off+0+us.length)).toArray,cx,?_,.inr ⟨rfl,rfl⟩,Tr.set hok hob hbk' ⟨rfl,rfl,rfl⟩ (by simp[World.setRow]) (fun k hk=>setRow_other w gb k _ hk) (fun hext=>?_),aZ⟩;simp[execOp,hp1,hu,Instr.storeAt,Instr.sureAddr,storeVar,Value.cells,hF.2 w,hul,hst];have hvl:vs.length=xs.length*sz:=hown.1;obtain⟨s1,_⟩:=ea (j*sz) _ _ hvs;obtain⟨_,s2⟩:=ea (j*sz+sz) _ _ hvs;refine⟨uK hsz he j,vs.take (j*sz)++us++vs.drop (j*sz+sz),⟨?_,.inr ⟨gb,cap,_,?_,eb,setRow_heap w gb cur _ _ (0,0) e2,?_,e4,?_,?_⟩⟩,?_,?_⟩;rw[hlen];simp only[List.length_append,List.length_take,List.length_drop];omega;rw[hlen];exact e1;rw[hlen];exact e3;rw[←e5];simp only[List.size_toArray,List.length_append,List.length_take,List.length_drop,Array.length_toList];omega;rw[hlen,←e6,List.toList_toArray,hul,Nat.add_zero,hoff,List.take_append,List.take_of_length_le (by simp only[List.length_append,List.length_take,Array.length_toList];omega),List.take_take,Nat.min_eq_left (by omega),List.drop_take];congr 1;congr 1;simp only[List.length_append,List.length_take,Array.length_toList];omega;rw[vt xs j ev hsz he hj,List.map_append,List.map_append,List.map_take,List.map_drop];exact Vs.mono (CxLe.refl _) hext _ _ ((s1.append hus).append s2);intro u hu';rcases List.mem_append.1 hu' with hu'|hu'
  rcases List.mem_append.1 hu' with hu'|hu'
  exact hone u (List.mem_of_mem_take hu');exact Vs.ones h1 hus u hu';exact hone u (List.mem_of_mem_drop hu')) h
end
theorem qL{f g:Nat→Option (Nat×Nat)}:∀(ps:List (Nat×Value)) (C:Array Value),(∀p∈ps,f p.1=g p.1)→Instr.fill f C ps=Instr.fill g C ps
 |[],C,_=>rfl
 |(j,v)::ps,C,h=>by
  have h1:f j=g j:=h (j,v) (by simp);simp only[Instr.fill,h1];cases g j with
  |none=>rfl
  |some q=>
   obtain⟨a,b⟩:=q;simp only;split;rfl;exact qL ps _ (fun p hp'=>h p (by simp[hp']))
def s8(P:Program)(t:Nat)(zs:List Value):Prop:=(∀w,(zeroValue t).run P w= .ok (.agg zs.toArray) w)∧∃n e,(∀w,(underlying t).run P w= .ok (.array n e) w)∧(∀w,(sizeOf e).run P w= .ok 1 w)
section
variable{P:Program}{r:Option Nat}{N:Nat}{D:List Nat}{B:bG}{all:Array Oper}{K:List (Nat×Ct)→St→Prop}
variable{i:Nat}{ops:List Oper}{tr:List (Nat×Ct)}{E:List (Nat×bB)}{L:List (Nat×LO)}{n:Nat}{g:Bool}{gn:List (Nat×bB)}
variable{d ty:Nat}{pos:String}{aft:Array Edge}{gd:Option (Nat×Bool)}
theorem qj{t:Nat}{zs:List Value}(hF:s8 P t zs){parts:Array (Nat×Operand)}{is:List Nat}{xs:List Operand}{es:List bB}{ls cs:List LV}
 (ho:all[i]?=some ⟨some d,.build t parts,ty,pos,aft,gd⟩:=by rfl)(hg:GuardOk (en E) all gd g gn:=by first|exact gN|exact gS rfl rfl)(hp':parts.toList=is.zip xs:=by rfl)(hil:is.length=xs.length:=by rfl)(hlt:(is.all fun k=>decide (k<zs.length))=true:=by rfl)
 (hx:xs.map (aP (en E))=es.map some:=by rfl)(hes:g=true→es.map bD=ls:=by first|exact fun _=>rfl|(intro h;simp[bD,h];done)|(intro h;simp only[List.map_cons,List.map_nil,fG h];first|done|rfl))(h1:ls.all LV.one=true:=by rfl)(hcs:Bv zs is ls=cs:=by rfl)
 (h:Reg P r N D B all (i+1) ops ((i,bK gn xs es (some d) (g,.agg cs) [])::tr) (st ((d,(g,.agg cs))::E) L n) K):
 Reg P r N D B all i (⟨some d,.build t parts,ty,pos,aft,gd⟩::ops) tr (st E L n) K:=by
 have hop:(Oper.mk (some d) (.build t parts) ty pos aft gd).op.operands.toList=xs:=by
  show(parts.toList.map (·.2)).toArray.toList=xs;rw[hp'];simp only[List.toList_toArray];exact List.map_snd_zip (by omega)
 refine dF (es:=es) (rd:=[]) (out:= .agg cs) ho hg ?_ (by simp) (fun hgt=>?_) ?_;rw[hop];exact bw hx;rw[hes hgt];refine dY (by simp) fun md n0 cx H ρ w _ _ hv=>?_;rw[hop]at hv;obtain⟨hz,m,e,hu,hm⟩:=hF;have hones:=Vs.ones h1 hv;have hpl:(parts.map fun(x:Nat×Operand)=>(x.1,ρ x.2)).toList=is.zip (xs.map ρ):=by
  rw[Array.toList_map,hp',List.zip_map_right];rfl
 have hin:∀p∈is.zip (xs.map ρ),p.1<zs.length∧p.2.oneCell'=true:=fun p hpm=>by
  obtain⟨hp1,hp2⟩:=List.of_mem_zip hpm;exact⟨by simpa using List.all_eq_true.1 hlt _ hp1,hones _ hp2⟩
 have hfill:=nw (m:=zs.length) (is.zip (xs.map ρ)) zs.toArray (by simp) hin;rw[qL (g:=fun k=>some (k*1,1)) _ _ (fun p hpm=>by
  have:=(hin p hpm).1;simp[this])]at hfill
 refine⟨.agg ((is.zip (xs.map ρ)).foldl (fun(C:List Value) p=>C.set p.1 p.2) zs).toArray,?_,?_⟩;simp only[execOp,Instr.build,Sem.run_bind,hz w,hu w,Result.andThen_ok,hm w,Value.cells];have:(parts.map fun(i,x)=>(i,ρ x)).toList=is.zip (xs.map ρ):=hpl;rw[this];simp only[List.toList_toArray]at hfill;rw[hfill];simp;rw[←hcs];simp only[V];refine⟨_,rfl,nz is ls _ _ _ ?_ hv⟩;exact gB cx w zs;rw[hop];exact h
theorem bN{T len sz:Nat}(hF:IndexAF P T len sz){x y:Operand}{gx gy:Bool}{o off:Nat}{k:IntKind}{j:Int}
 (ho:all[i]?=some ⟨some d,.indexAddr T x y,ty,pos,aft,gd⟩:=by rfl)(hg:GuardOk (en E) all gd g gn:=by first|exact gN|exact gS rfl rfl)
 (hx:aP (en E) x=some (gx,.ptr o off):=by rfl)(hy:aP (en E) y=some (gy,.v (.int k j)):=by rfl)
 (hgx:g=true→gx=true:=by first|exact fun _=>rfl|exact id)(hgy:g=true→gy=true:=by first|exact fun _=>rfl|exact id)
 (hj:g=true→0≤j∧j<len)
 (h:Reg P r N D B all (i+1) ops ((i,bK gn [x,y] [(gx,.ptr o off),(gy,.v (.int k j))] (some d) (g,.ptr o (off+j.toNat*sz)) [])::tr) (st ((d,(g,.ptr o (off+j.toNat*sz)))::E) L n) K):
 Reg P r N D B all i (⟨some d,.indexAddr T x y,ty,pos,aft,gd⟩::ops) tr (st E L n) K:=
 Reg.two rfl (fun h=>by
  rw[aE h hgx,aE h hgy];refine bj (x:=x) (y:=y) rfl (by simp) fun md n0 cx H ρ w hok hrd v1 v2=>?_;obtain⟨h0,hlt⟩:=hj h;simp only[V]at v1;obtain⟨hA,b,hbk,he⟩:=v1;refine⟨.pointer (some ⟨b,off+j.toNat*sz,none⟩),by simp only[execOp,he,v2.val];simp[hF b off k j w h0 hlt],?_⟩;simp only[V];exact⟨hA,b,hbk,rfl⟩) ho hg hx hy (by simp) h
end
end Go.Proofs.YtgkhfpfjokagfaaGreatDoor
namespace Go.Proofs.YtgkhfpfjokagfaaGreatDoor
open Go.ChangeShapes Go.WideShapes Go.Deep Go.RowKit Go.ChangeAt
section
variable{H:Type}{enc:TypeId×Value→H}{P:Program}
theorem qT(hlaid:laidOutB P=true){W W':World}(hb:Below W.heap.size W W'){sp:Nat→Bool}:∀{ts:List TypeId} {vs:List Value} {ds:List (DataW H)} {ps:List MemPlace},
 ts.all (fun t=>P.readableRec t&&decide (t<P.types.size))=true→DataW.TrodAll enc P W 0 (fun _=>true) true ts vs ds ps→(∀x∈ps,x.block<W.heap.size)→(∀x∈ps,sp x.block=true)→
 DataW.TrodAll enc P W' 0 sp true ts vs ds ps
 |[],[],[],_,_,h,_,_=>h
 |[],_::_,_,_,_,h,_,_=>h.elim
 |[],[],_::_,_,_,h,_,_=>h.elim
 |_::_,[],_,_,_,h,_,_=>h.elim
 |_::_,_::_,[],_,_,h,_,_=>h.elim
 |t::ts,v::vs,d::ds,_,hr,⟨p,q,h1,h2,e⟩,hlt,hs=>by
  simp only[List.all_cons,Bool.and_eq_true,decide_eq_true_eq]at hr;refine⟨p,q,WideElems.Trod_stays hlaid hr.1.1 hr.1.2 h1 (fun x hx=>hb.same (hlt x ?_)) (fun x hx=>hs x ?_),qT hlaid hb hr.2 h2 (fun x hx=>hlt x ?_) (fun x hx=>hs x ?_),e⟩;all_goals rw[e];simp[hx]
theorem B9{F:FuncId}{f:Func}{s:ChangeSpec}{apart fresh handsOn again:Bool}{tb:TypeId}{W:World}{args:Array Value}{ds gs:List (DataW H)}{before:List MemPlace}
 (hlaid:laidOutB P=true)(hread:f.params.toList.all (fun t=>P.readableRec t&&decide (t<P.types.size))=true)(hvars:s.vars=[])(hres:f.resultTypes=#[tb])(hb:P.underlying tb=some .bool)
 (hspec:(s.fn H ds).results=[.lit (.bool true)]∧(s.fn H ds).args=ds∧(s.fn H ds).vars=[])
 (hW:DataW.Whole enc P f.params.toList s.vars apart W args.toList ds gs before)
 (hcall:Calls P F args W fun e w'=>e= .returned (.bool true)∧Below W.heap.size W w'):
 Calls P F args W fun e W'=>∃v,e= .returned v∧s.post enc P f apart fresh handsOn again W args v W':=by
 have hW':=hW;obtain⟨p,q,hA,hV,rfl,hfz,hnd⟩:=hW;rw[hvars]at hV;obtain⟨rfl,rfl⟩:=trodVars_none hV;refine hcall.mono fun e W' ⟨he,hB⟩=>⟨.bool true,he,?_⟩;refine rA (pa:=p) (pv:=[]) hW' (fun b sp hd=>?_) (fun sp hs=>?_) (fun sp hs=>?_) rfl hB (ok_one hres rfl (okWide_bool_mk hb true));rw[List.append_nil,hspec.1,hres];exact trodAll_cons_mk (shut_bool hb true) trodAll_mk0;rw[List.append_nil,hspec.2.1];exact qT hlaid hB hread hA (fun x hx=>hW'.lt x (by simp[hx])) (fun x hx=>hs x (by simp[hx]));rw[hvars,List.append_nil,hspec.2.2];rfl
end
theorem iU{cx:Cx}{w:World}{c:LV}{cs:List LV}{x:Value}{xs:List Value}(h:V cx w c x)(hs:Vs cx w cs xs):Vs cx w (c::cs) (x::xs):=by
 simp only[Vs];exact⟨x,xs,rfl,h,hs⟩
theorem s7{cx:Cx}{w:World}:Vs cx w [] []:=by simp[Vs]
theorem PC.runT{P:Program}{f:FuncId}{lvs:List LV}(h:PC P f lvs (.b true)){w:World}{vs:List Value}(hv:Vs (DD w) w lvs vs)(ham:Amb (DD w).pr w:=by refine⟨?_,?_⟩<;>(intro p hp;first|(simp[oL]at hp;done)|(simp[pq]at hp;done))):
 Calls P f vs.toArray w fun e w'=>e= .returned (.bool true)∧Below w.heap.size w w':=
 (h.run hv ham).mono fun e w' ⟨v,cx',he,hb,hvo⟩=>by
  have hvo':v= .bool true:=by simpa[V,VS]using hvo
  subst hvo';exact⟨he,hb⟩
section
variable{H:Type}{enc:TypeId×Value→H}{P:Program}{w:World}
theorem yY{cx:Cx}{w:World}:∀{ss:List SV} {vs:List Value},ss.length=vs.length→(∀(j:Nat) (s:SV) (v:Value),ss[j]?=some s→vs[j]?=some v→V cx w (.sv s) v)→Vs cx w (ss.map LV.sv) vs
 |[],[],_,_=>by simp[Vs]
 |[],_::_,h,_=>by simp at h
 |_::_,[],h,_=>by simp at h
 |s::ss,v::vs,h,hv=>by
  simp only[List.map_cons,Vs];exact⟨v,vs,rfl,hv 0 s v rfl rfl,yY (by simpa using h) (fun j s' v' h1 h2=>hv (j+1) s' v' (by simpa using h1) (by simpa using h2))⟩
theorem Rd.argAgg{t:TypeId}{fs:Array Field}{Sh:List SV→Prop}{base:Nat}(h:Rd enc P w t Sh)(ht:P.underlying t=some (.struct fs)){v:Value}{d:DataW H}{p:List MemPlace}
 (hok:Value.okWide P w .any base t v)(hv:DataW.Trod enc P w 0 (fun _=>true) true t v d p):∃ss,Sh ss∧V (DD w) w (.agg (ss.map LV.sv)) v:=by
 obtain⟨cs,rfl,_⟩:=okWide_struct ht hok;obtain⟨n,hn⟩:=hv;obtain⟨ss,h1,h2,h3⟩:=h n _ _ hn;refine⟨ss,h1,?_⟩;have e:(Value.agg cs).cells.toList=cs.toList:=rfl;rw[e]at h2 h3;simp only[V];exact⟨cs.toList,by simp,yY h2 (fun j s x hs hx=>by simp only[V];exact(h3 j s x hs hx).1)⟩
end
end Go.Proofs.YtgkhfpfjokagfaaGreatDoor