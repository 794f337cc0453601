/- A part of the proof of ChunksHolds. -/
import Derived.Test.YtimbpmnbbfeogaaGreatDoorZE
import Derived.Carry
import Derived.RowKit
import Derived.LaidMore
import Derived.LaidHandle
import Derived.MakeChecks
import Derived.JoinedOf
import Derived.Stop.Joined
set_option linter.unusedVariables false
set_option linter.unusedSimpArgs false
set_option linter.unusedSectionVars false
set_option maxHeartbeats 16000000
set_option maxRecDepth 100000
namespace Go.Abs
open Go.RowKit Go.ChangeShapes Go.WideShapes
section
variable{ak:Type}{enc:TypeId×Value->ak}{P:Program}
theorem ahq{w:World}{base:Nat}{spare:Nat->Bool}{held:Bool}:∀{ts:List TypeId} {vs:List Value} {cf:List (DataW ak)} {a_:List MemPlace},DataW.TrodAll enc P w base spare held ts vs cf a_->vs.length=ts.length/\cf.length=ts.length
 |[],_,_,_,h=>by
  obtain⟨rfl,rfl,_⟩:=trodAll_nil h;exact⟨rfl,rfl⟩
 |_::_,_,_,_,h=>by
  obtain⟨v,aDN,d,aBF,a,b,rfl,rfl,rfl,_,h2⟩:=trodAll_cons h;have:=ahq h2;simp[this.1,this.2]
theorem ahp(hl:laidOutB P=true){W W':World}(hb:Below W.heap.size W W'):∀{ts:List TypeId} {vs:List Value} {cf:List (DataW ak)} {a_:List MemPlace},
  ts.all (λt=>P.readableRec t&&decide (t<P.types.size))=true->DataW.TrodAll enc P W 0 (λ_=>true) true ts vs cf a_->(∀x∈a_,x.block<W.heap.size)->∀fm:Nat->Bool,(∀p∈a_,fm p.block=true)->DataW.TrodAll enc P W' 0 fm true ts vs cf a_
 |[],_,_,_,_,h,_,_,_=>by
  obtain⟨rfl,rfl,rfl⟩:=trodAll_nil h;rfl
 |t::ts,_,_,_,ht,h,hlt,fm,nh=>by
  obtain⟨v,vs,d,cf,p,q,rfl,rfl,rfl,h1,h2⟩:=trodAll_cons h;simp only[List.all_cons,fR,lM] at ht;exact trodAll_cons_mk (WideElems.Trod_stays hl ht.1.1 ht.1.2 h1 (λx hx=>hb.same (hlt x yV)) (λx hx=>nh x yV))
   (ahp hl hb (by simpa using ht.2) h2 (λx hx=>hlt x yV) fm (λx hx=>nh x yV))
theorem ar3{f:Func}{s:ChangeSpec}{apart fresh handsOn again:Bool}{W W':World}{args:Array Value}{cf gs:List (DataW ak)}{before:List MemPlace}{Bl:TypeId}
  (hl:laidOutB P=true) (Cj:f.params.toList.all (λt=>P.readableRec t&&decide (t<P.types.size))=true) (EA:s.vars=[]) (zO:f.resultTypes=#[Bl]) (LN:P.underlying Bl=some .bool)
  (hW:DataW.Whole enc P f.params.toList s.vars apart W args.toList cf gs before) (hs:s.fn ak (cf++gs)={results:=[.lit (.bool true)],args:=cf}) (hb:Below W.heap.size W W'):
  s.post enc P f apart fresh handsOn again W args (.bool true) W':=by
 have hlt:∀p∈before,p.block<W.heap.size:=λp hp=>hW.lt p hp
 have hold:∀p∈before,(λb=>decide (b<W.heap.size)) p.block=true:=λp hp=>by simpa using hlt p hp
 have amW:=hW;obtain⟨p,q,dJ,cY,he,hz,hn⟩:=hW;rw[EA] at cY;obtain⟨rfl,rfl⟩:=trodVars_none cY;rw[nx] at he;subst he;have hr:∀(b:Nat) (fm:Nat->Bool) (hd:Bool),DataW.TrodAll enc P W' b fm hd f.resultTypes.toList ((Value.bool true).resultList f.resultTypes.size) (s.fn ak (cf++[])).results []:=λb fm hd=>by
  rw[hs,zO];exact trodAll_mk1 (shut_bool LN _)
 have ha:∀fm:Nat->Bool,(∀x∈before,fm x.block=true)->DataW.TrodAll enc P W' 0 fm true f.params.toList args.toList (s.fn ak (cf++[])).args before:=λfm nh=>by
  rw[hs];exact ahp hl hb Cj dJ hlt fm nh
 have ah:∀fm:Nat->Bool,DataW.TrodVars enc P W' fm s.vars (s.fn ak (cf++[])).vars []:=λfm=>by
  rw[hs,EA];rfl
 refine⟨cf,[],before,[],before,[],amW,hr _ _ _,ha _ hold,ah _,World.keptBut_mono (λx hx=>⟨hx,by simpa using hx⟩) (hb.frame (· ∈before)),λ_=>?_⟩;refine⟨ok_one zO rfl (okWide_bool_mk LN _),_,_,([]++before)++[],⟨[]++before,[],trodAll_append (ha _ (λ_ _=>rfl)) (hr _ _ _),ah _,by simp,?_,?_⟩,?_⟩
 ·intro b off hp
  have kO:MemPlace.cell b off∈before:=by simpa using hp
  rw[hb.frozen (hlt _ kO)];exact hz b off kO
 ·intro LG
  simpa using hn LG
 ·intro x hx _
  simpa using hx
end
theorem law_row{ak:Type}{enc:TypeId×Value->ak}{a:Assume}{C:Checked}{os:Os}{f:FuncId}{fn:Func}{s:ChangeSpec}{conds:List PathCond}{apart fresh handsOn again:Bool}{laid:List (String×DataW Unit)}{Bl:TypeId}
  (own:ownKnob C.prog.godebug=none) (started:os.Started) (arp:C.prog.inits.idxOf? f=none) (hfn:C.prog.funcs[f]? =some fn)
  (hl:laidOutB C.prog=true) (Cj:fn.params.toList.all (λt=>C.prog.readableRec t&&decide (t<C.prog.types.size))=true) (EA:s.vars=[]) (zO:fn.resultTypes=#[Bl]) (LN:C.prog.underlying Bl=some .bool)
  (hs:∀cf:List (DataW ak),cf.length=fn.params.toList.length->s.fn ak cf={results:=[.lit (.bool true)],args:=cf})
  (witness:∃(w:World) (tape:Tape) (i:Input),w.os=os/\(w.forCall tape i).Shaped C.prog/\i.vars=[]/\Input.okWide C.prog (w.forCall tape i) .any w.heap.size f i/\
   ((s.pre enc C.prog fn conds apart (w.forCall tape i).memory i.args/\laidMetH C.prog laid (w.forCall tape i).memory)/\sizedMet enc C.prog fn (OpenSpec.ofChange s) apart (w.forCall tape i).memory i.args)/\a.holds C.prog (lone (Frame.enter C.prog f i.args .normal) [] (w.forCall tape i)))
  (akS:∀(W:World) (base:Nat) (args:Array Value) (cf:List (DataW ak)) (before:List MemPlace),
   (∀(j:Nat) t v,fn.params[j]? =some t->args[j]? =some v->Value.okWide C.prog W .any base t v)->
   DataW.TrodAll enc C.prog W 0 (λ_=>true) true fn.params.toList args.toList cf before->
   (DataW.weightsEach C.prog fn.params.toList cf).all (· <=reachBytes)=true->W.ShapedOpen C.prog->laidMetH C.prog laid W->
   Calls C.prog f args W λe W'=>e= .returned (.bool true)/\Below W.heap.size W W'):
  ReturnsInHanded a C os f .any (λw args=>(s.pre enc C.prog fn conds apart w args/\laidMetH C.prog laid w)/\sizedMet enc C.prog fn (OpenSpec.ofChange s) apart w args) (s.post enc C.prog fn apart fresh handsOn again):=by
 refine returnsInHanded_of_calls own started arp witness ?_;intro w tape i _ lY _ fc hpre aCe;obtain⟨_,_,_,abh,anG,_,_,_,_,yc⟩:=fc;have e:abh=fn:=h9 (anG.symm.trans hfn);subst e;obtain⟨⟨⟨cf,gs,before,hw,hc⟩,hx⟩,hz⟩:=hpre;have hw':=DataW.Whole.of_heap (w':=w.forCall tape i) (by rfl) hw;have Tm:=hz.weights hw;have yd:laidMetH C.prog laid (w.forCall tape i):=hx.of_heap (by rfl);have adq:=hw';obtain⟨p,q,dJ,cY,he,aCc,oq⟩:=hw';rw[EA] at cY;obtain⟨rfl,rfl⟩:=trodVars_none cY;rw[nx] at Tm;have apz:(DataW.weightsEach C.prog abh.params.toList cf).all (· <=reachBytes)=true:=by
  have e1:(OpenSpec.ofChange s).bare.plain.varTypes C.prog=[]:=by
   show(s.vars.filterMap _)=[];rw[EA];rfl
  rw[e1,nx] at Tm;exact Tm
 refine(akS (w.forCall tape i) w.heap.size i.args cf p yc dJ apz lY yd).mono λe W' ⟨h1,h2⟩=>?_
 subst h1;exact ChangeSpec.post_blind (ar3 hl Cj EA zO LN adq (by rw[nx];exact hs cf (ahq dJ).2) h2)
end Go.Abs
namespace Go.Abs
def Fj:List MemPlace->Nat->Nat->List Nat->Bool
 |[],_,_,_=>true
 | .map _::_,_,_,_=>false
 | .cell b off::a_,db,GI,wX=>match Nat.beq b db with
  |true=>Nat.ble GI off&&Fj a_ db (off+1) wX
  |false=> !(wX.any (Nat.beq b))&&Fj a_ b (off+1) (b::wX)
theorem Vk:∀{a_:List MemPlace} {db GI:Nat} {wX:List Nat},Fj a_ db GI wX=true->db∈wX->
  a_.Nodup/\∀p∈a_,∃b off,p= .cell b off/\(b=db/\GI<=off∨b∉wX)
 |[],_,_,_,_,_=>⟨F',λp hp=>by cases hp⟩
 | .map _::_,_,_,_,h,_=>by cases h
 | .cell b off::a_,db,GI,wX,h,hc=>by
  unfold Fj at h;split at h
  ·rename_i hb
   obtain rfl:b=db:=uC hb;rw[fR] at h;have hle:=O7 h.1;obtain⟨h1,h2⟩:=Vk h.2 hc;refine⟨xi.2 ⟨λhm=>?_,h1⟩,λp hp=>?_⟩
   ·obtain⟨b',IQ,e,aw⟩:=h2 _ hm
    cases e;rcases aw with aw|aw
    ·omega
    ·exact aw hc
   ·rcases e7.1 hp with rfl|hp
    ·exact⟨b,off,rfl, .inl ⟨rfl,hle⟩⟩
    ·obtain⟨b',IQ,e,aw⟩:=h2 p hp
     refine⟨b',IQ,e,aw.imp (λaZ=>⟨aZ.1,by omega⟩) id⟩
  ·rw[fR,XT] at h
   have Cb:b∉wX:=λhm=>by
    have:wX.any (Nat.beq b)=true:=Pe.2 ⟨b,hm,O9 b⟩;rw[this] at h;cases h.1
   obtain⟨h1,h2⟩:=Vk h.2 kB;refine⟨xi.2 ⟨λhm=>?_,h1⟩,λp hp=>?_⟩
   ·obtain⟨b',IQ,e,aw⟩:=h2 _ hm
    cases e;rcases aw with aw|aw
    ·omega
    ·exact aw kB
   ·rcases e7.1 hp with rfl|hp
    ·exact⟨b,off,rfl, .inr Cb⟩
    ·obtain⟨b',IQ,e,aw⟩:=h2 p hp
     refine⟨b',IQ,e, .inr ?_⟩;rcases aw with aw|aw
     ·rw[aw.1];exact Cb
     ·exact λhm=>aw (jt _ hm)
theorem avx{a_:List MemPlace}{n:Nat}(h:Fj a_ n 0 [n]=true):a_.Nodup:=(Vk h kB).1
theorem laidMet_runs{P:Program}{w:World}{l:List (String×DataW Unit)}(fuel n:Nat)(h:(DataW.laidRun P w fuel (l.map (·.1))).map (·.1)=some l)
  (hr:(DataW.laidRun P w fuel (l.map (·.1))).map (λx=>Fj x.2 n 0 [n]&&laidRowsB P w x.2)=some true):laidMet P l w:=by
 cases hx:DataW.laidRun P w fuel (l.map (·.1)) with
 |none=>simp[hx] at h
 |some x=>
  obtain⟨l',a_⟩:=x;simp only[hx,Option.map_some,xg] at h hr;subst h;simp only[fR] at hr;exact laidMet_of_run fuel hx (l8 (avx hr.1)) hr.2
theorem joined_of{P:Program}{f:FuncId}{fn:Func}{s:ChangeSpec}{c:OpenClaim}
  (dd:c.wf (OpenSpec.ofChange s)=true) (a2:laidOutB P=true) (a3:mapsRowed P=true) (a4:fn.params.all (P.readableRec ·)=true) (a5:namedTie P c.named s.vars=true)
  (iG:(c.stops==[])=true) (nC:(P.stops==[])=true) (nD:(c.knobs==[])=true) (a9:(P.stopKnobs==[])=true)
  (Ba:(c.inPlace==P.inPlace f)=true) (xx:(c.unfollowed==P.unfollowed f)=true) (xy:(c.recurses==P.recurses f)=true) (Bb:(c.named==P.varsNamed f)=true)
  (Bc:(c.maps==(fn.params.toList++s.plain.varTypes P).any (P.mapsRec ·))=true) (Bd:(c.ifaces==(fn.params.toList++s.plain.varTypes P).any (P.ifacesRec ·))=true) (PZ:(c.mapsOut==P.mapsAmong fn.resultTypes.toList)=true)
  (ai5:(c.loops==(fn.params.toList++s.plain.varTypes P).any (P.loopsFrom ·))=true) (Km:(c.wideKeys==(fn.params.toList++s.plain.varTypes P++fn.resultTypes.toList).any (P.wideKeysFrom ·))=true)
  (ai6:s.vars.all (P.varReadable ·)=true) (a20:fn.resultTypes.all (λt=>P.readableRec t&&decide (t<P.types.size))=true) (a21:(c.ifacesOut==fn.resultTypes.toList.any (P.ifacesRec ·))=true) (ai7:(c.loopsOut==fn.resultTypes.toList.any (P.loopsFrom ·))=true)
  (ai8:(c.plainKeys==P.plainKeys)=true) (a24:c.shortTexts.isNone=true) (ai9:P.stopsHeard=true) (ai_:P.mayEnter=true) (ai':(c.lifted==P.liftsFinal)=true) (aja:(P.make==some c.make)=true)
  (ajb:(c.kinds==(if c.domain.isEmpty then[] else fn.params.toList.map λt=>match P.underlying t with|some (.int k)=>some k|_=>none))=true) (P0:(c.pinned==c.pinnedBy)=true)
  (a31:(c.veiled==(fn.params.toList++s.plain.varTypes P++fn.resultTypes.toList).any (P.veiledRec ·))=true) (P1:c.veiledFits P fn.params.toList (fn.params.toList++s.plain.varTypes P++fn.resultTypes.toList)=true):
  joinedFacts P f fn s c=true:=by
 unfold joinedFacts;simp only[fR];exact⟨⟨⟨⟨⟨⟨⟨⟨⟨⟨⟨⟨⟨⟨⟨⟨⟨⟨⟨⟨⟨⟨⟨⟨⟨⟨⟨⟨⟨⟨⟨dd,a2⟩,a3⟩,a4⟩,a5⟩,iG⟩,nC⟩,nD⟩,a9⟩,Ba⟩,xx⟩,xy⟩,Bb⟩,Bc⟩,Bd⟩,PZ⟩,ai5⟩,Km⟩,ai6⟩,a20⟩,a21⟩,ai7⟩,ai8⟩,a24⟩,ai9⟩,ai_⟩,ai'⟩,aja⟩,ajb⟩,P0⟩,a31⟩,P1⟩
variable{P:Program}
theorem aem{W:World}:∀{laid:List (String×DataW Unit)} {a_:List MemPlace},DataW.LaidVars P W laid a_->∀x∈laid,∃g t cs fuel p,P.globalNamed x.1=some g/\(P.globals[g]?).map (·.type)=some t/\W.var? P x.1=some cs/\
  DataW.trod (λ_=>()) P W 0 (λ_=>true) false fuel t cs.toList=some (x.2,p)/\∀m∈MemPlace.row ⟨g,0,none⟩ cs.size,m∈a_
 |[],_,_,x,hx=>by cases hx
 |(n,d)::r,a_,h,x,hx=>by
  obtain⟨g,t,cs,fuel,p,q,h1,h2,aw,aZ,ca,rfl⟩:=h;rcases e7.1 hx with rfl|hx
  ·exact⟨g,t,cs,fuel,p,h1,h2,aw,aZ,λm hm=>by simp[hm]⟩
  ·obtain⟨aU,hv,fD,ami,p',a8,aK,k3,k4,dW⟩:=aem ca x hx
   exact⟨aU,hv,fD,ami,p',a8,aK,k3,k4,λm hm=>by simp[dW m hm]⟩
theorem sent_met{W:World}{laid:List (String×DataW Unit)}(hW:W.ShapedOpen P)(aj:laidMet P laid W){name ae4:String}{cE:List UInt8}(hx:(name,DataW.iface ae4 (.ptr (.agg [.lit (.string cE)])))∈laid)
  {g:Nat} {WN tp nV ts ety:TypeId} {ms:Array (String×TypeId)} {f:Field} (named:P.globalNamed name=some g) (lt:g<P.globals.size) (type:(P.globals[g]?).map (·.type)=some WN)
  (z7:∃zero,((begin P (λ_ _=>0) default).world.heap[g]?).bind Obj.row?=some (zero,ety)) (hi:P.underlying WN=some (.interface ms)) (hrow:∀u,P.typeName? 3 u=some ae4->u=tp)
  (hp:P.underlying tp=some (.pointer nV)) (he:P.underlying nV=some (.struct #[f])) (anL:f.type=ts) (anH:f.offset=0) (hs:P.underlying ts=some .string) (hc:P.cellsOf nV=1) (jH:P.cellsOf ts=1):
  ∃k o,k<W.heap.size/\W.heap[g]? =some (.cells #[.iface tp (.pointer (some ⟨k,o,none⟩))] ety (0,0)):=by
 obtain⟨a_,ah,_,hq⟩:=aj;obtain⟨aU,awx,cs,fuel,p,h1,h2,aw,aZ,ca⟩:=aem ah _ hx;obtain rfl:aU=g:=h9 (h1.symm.trans named);obtain rfl:awx=WN:=h9 (h2.symm.trans type);obtain⟨zero,hz⟩:=z7;obtain⟨fD,bY,_,_⟩:=hW.1 aU zero ety lt hz;have anj:fD=cs:=by
  unfold World.var? at aw;rw[named] at aw;simp only[Option.bind_some,bY] at aw;exact h9 aw
 subst anj;obtain⟨a,s,e1,e2,_⟩:=errorString_of_trod hi hrow hp he anL anH hs hc jH aZ λu v adp=>by
  have hsz:fD.size=1:=by have:=dx List.length adp;simpa using this
  have hm:MemPlace.cell aU 0∈a_:=ca _ (by rw[hsz];simp[MemPlace.row]);refine(hq aU 0 hm).2 u v ?_;have aW:fD[0]? =some (.iface u v):=by rw[<-uA,adp];rfl
  unfold World.cell?;simp[bY,aW]
 have hcell:=e2;unfold World.cell? at hcell;obtain⟨k,o,spot⟩:=a;cases spot with
 |some x=>
  split at hcell
  ·simp at hcell
  ·cases hcell
 |none=>
  refine⟨k,o,?_,?_⟩
  ·rcases h8 k W.heap.size with h|h
   ·exact h
   ·simp[World.cell?,Dt h] at e2
  ·rw[bY]
   congr 2;exact Array.toList_inj.1 (by simpa using e1)
end Go.Abs
