/- Redirect of both programs. No condition. -/
import Derived.Test.YtnomiclfiijniaaGreatQS42
namespace Go.Proofs.YtnomiclfiijniaaGreat
set_option maxRecDepth 100000
set_option linter.unusedSimpArgs false
set_option linter.unusedVariables false
theorem mpF_congr {g h:Int→Int} {F:Func} (he:∀ b∈F.blocks_,∀ x∈allU b,g x=h x):mpF g F=mpF h F:=by
  unfold mpF
  congr 1
  refine List.map_congr_left fun b hb=>?_
  have hu:=he b hb
  have e1:b.insts_.map (mpI g)=b.insts_.map (mpI h):=List.map_congr_left fun x hx=>by
    unfold mpI
    congr 1
    exact List.map_congr_left fun n hn=>hu n (List.mem_append_left _ (List.mem_flatMap.2 ⟨x,hx,hn⟩))
  have e2:b.jumps_.map (mpJ g)=b.jumps_.map (mpJ h):=List.map_congr_left fun x hx=>by
    unfold mpJ
    congr 1
    exact List.map_congr_left fun n hn=>hu n (List.mem_append_right _ (List.mem_append_right _ (List.mem_flatMap.2 ⟨x,hx,hn⟩)))
  unfold mpB
  rw [e1,e2]
  by_cases h2:b.end_=2
  · rw [if_pos h2,if_pos h2]
  · rw [if_neg h2,if_neg h2,hu b.value_ (List.mem_append_right _ (List.mem_append_left _ (by rw [if_neg h2];exact List.mem_singleton.2 rfl)))]
theorem good_value {F:Func} (h:goodF F=true) {b:Block} (hb:b∈F.blocks_) (h2:b.end_=2):b.value_=0:=by
  obtain ⟨_,_,_,_,_,_,hbo⟩:=goodF_spec h
  have h1:=List.all_eq_true.1 hbo b hb
  simp only [bodyOk,Bool.and_eq_true,endsOk,h2] at h1
  simp at h1
  exact h1.2.1
theorem good_all {F:Func} (h:goodF F=true) {b:Block} (hb:b∈F.blocks_):∀ x∈allU b,0≤x∧x < many F:=by
  obtain ⟨_,h2,h3⟩:=good_vals h hb
  intro x hx
  rcases List.mem_append.1 hx with q | q
  · obtain ⟨y,hy,hn⟩:=List.mem_flatMap.1 q
    exact (h2 y hy).2 x hn
  · exact h3 x q
theorem good_small {F:Func} (h:goodF F=true):smallF F:=by
  obtain ⟨_,hl,_,_,_,_,_⟩:=goodF_spec h
  refine ⟨by omega,fun b hb=>?_⟩
  obtain ⟨h1,h2,_⟩:=good_vals h hb
  obtain ⟨h3,h4⟩:=good_end h b hb
  exact ⟨h1,h3,fun x hx=>(h2 x hx).1,fun j hj=>by have:=h4 j hj;omega⟩
theorem good_map {F:Func} (h:goodF F=true) {T:List Int} (hT:T.length=(many F).toNat):∀ b∈F.blocks_,okMap T b:=fun b hb=>by
  obtain ⟨_,s2⟩:=good_small h
  obtain ⟨q1,q2,q3,q4⟩:=s2 b hb
  exact ⟨by omega,by omega,q3,q4,fun v hv=>by have:=good_all h hb v hv;omega,good_value h hb⟩
def rdT (F:Func) (fr to:Int):List Int:=(sgl (many F).toNat).set fr.toNat to
theorem rdT_len (F:Func) (fr to:Int):(rdT F fr to).length=(many F).toNat:=by simp [rdT,sgl_len]
theorem rdT_get {F:Func} {fr to v:Int} (h0:0≤v) (h1:v < many F) (f0:0≤fr):mapL (rdT F fr to) v=rdG fr to v:=by
  unfold mapL rdT rdG
  rw [List.getElem?_set]
  by_cases h:v=fr
  · subst h
    rw [if_pos rfl,if_pos (by rw [sgl_len];omega),if_pos rfl];rfl
  · rw [if_neg (by omega),if_neg h,sgl_get (by omega)]
    show ((v.toNat:Nat):Int)=v
    omega
theorem rdF_eq {F:Func} {fr to:Int} (h:goodF F=true) (f0:0≤fr):mpF (mapL (rdT F fr to)) F=mpF (rdG fr to) F :=
  mpF_congr fun b hb x hx=>by have:=good_all h hb x hx;exact rdT_get this.1 this.2 f0
theorem dle_closeK {K:List Nat} {H:Heap} {id:Nat} {l:List Int} (hid:id ∉ K) (hr:H[id]? = some (.row 1 (rI l))):DLe (closeK K H 4 (.sl id 1 0 l.length)) (dIntS l):=by
  have hl:(rI l).length=l.length:=by simp
  simp only [closeK]
  rw [if_neg hid,hr]
  simp only [Nat.zero_add,hl]
  rw [if_pos ⟨trivial,Nat.le_refl _⟩]
  refine ⟨rfl,rfl,fun k hk j hj=>?_⟩
  have:j=0:=by omega
  subst this
  dsimp only
  rw [List.getElem?_map,List.getElem?_eq_getElem hk]
  simp [closeK]
theorem l15Redirect_c (F:Func) (fr to:Int) (hF:Enc.good F) (hg:goodF F=true) (f0:0≤fr) (f1:fr < many F):PureP Tryz.prog 66 [vFunc F,.d (.int .i64 fr),.d (.int .i64 to)] (· = vFunc (mpF (rdG fr to) F)):=by
  obtain ⟨hp,hl,hh,hm,hc,hs,_⟩:=goodF_spec hg
  have hmany:cntB F.blocks_ F.params_=many F:=rfl
  have h8:F.blocks_.length≤8:=by omega
  refine pure_of Tryz.func66 en_66 rfl rfl (W_runCut mixed 3 ⟨[K_103,K_113],[K_103h,K_113h],[112],18,0,[0,1,2,3,6,7],[]⟩ (fun _=>[]) (by kernel_rfl) ?_)
  simp only [Tryz.f66,stripCut,stripX,stripOps,pickOps]
  simp [K_103_f,K_103_e,K_113_f,K_113_e,K_103h_f,K_103h_e,K_113h_f,K_113h_e,K_103h_g,K_113h_g,hF,hmany]
  refine (l11Single_own _ (many F) (by omega) (by omega)).mono ?_
  rintro r H1 ⟨s,rfl,hs1,hn⟩
  have hlen:s.l.length=(many F).toNat:=by rw [hs1,sgl_len]
  obtain ⟨hv,hr,_,hid⟩:=hn.own.row (by omega)
  have hi2:2≤s.id:=hn.fresh s.id (by rw [hid];exact List.mem_cons_self)
  have h2l:2≤H1.length:=hn.only.len
  have g0:H1[0]? = some (.row 2 [[.d (.int .i64 F.params_),.d (dBlockS F.blocks_)]]):=hn.only.at_ 0 (by simp) List.not_mem_nil
  have g1:H1[1]? = some (.row 2 [[.d (.int .i64 0),.d .nilsl]]):=hn.only.at_ 1 (by simp) List.not_mem_nil
  have hidl:=(List.getElem?_eq_some_iff.1 hr).1
  have hr1:H1[s.id]? = some (.row 1 (rI (sgl (many F).toNat))):=by rw [← hs1];exact hr
  have hrT:(rI (sgl (many F).toNat)).set fr.toNat [.d (.int .i64 to)]=rI (rdT F fr to):=by
    show ((sgl (many F).toNat).map fun n=>[V.d (.int .i64 n)]).set _ _=(((sgl (many F).toNat).set fr.toNat to).map fun n=>[V.d (.int .i64 n)])
    rw [List.map_set]
  have hrl:(rI (sgl (many F).toNat)).length=s.l.length:=by rw [hs1];simp
  have hrg:(rI (sgl (many F).toNat))[fr.toNat]?.getD []=[.d (.int .i64 fr)]:=by
    rw [List.getElem?_map,sgl_get (by omega)]
    show [V.d (.int .i64 ((fr.toNat:Nat):Int))]=_
    rw [Int.toNat_of_nonneg f0]
  have hrg2:∀ h:fr.toNat < (rI (sgl (many F).toNat)).length,(rI (sgl (many F).toNat))[fr.toNat]=[.d (.int .i64 fr)]:=fun h=>by rw [← hrg,List.getElem?_eq_getElem h];rfl
  generalize rI (sgl (many F).toNat)=rows at hr1 hrT hrl hrg hrg2
  have hok:=good_map hg (rdT_len F fr to)
  have heq:=rdF_eq (to:=to) hg f0
  have hsz:Enc.size Int=1:=rfl
  have hb:(0≤fr∧fr < (s.l.length:Int)):=by omega
  rw [hv]
  simp [K_103_f,K_103_e,K_113_f,K_113_e,K_103h_f,K_103h_e,K_113h_f,K_113h_e,K_103h_g,K_113h_g,hF,hmany,hsz,hr1,hrl,hrg,hrg2,hrT,hb]
  have n0:(H1.set s.id (.row 1 (rI (rdT F fr to))))[0]? = some (.row 2 [[.d (.int .i64 F.params_),.d (dBlockS F.blocks_)]]):=by rw [List.getElem?_set_ne (by omega)];exact g0
  have n1:(H1.set s.id (.row 1 (rI (rdT F fr to))))[1]? = some (.row 2 [[.d (.int .i64 0),.d .nilsl]]):=by rw [List.getElem?_set_ne (by omega)];exact g1
  have nT:DLe (closeK [0,1] (H1.set s.id (.row 1 (rI (rdT F fr to)))) 4 (.sl s.id 1 0 s.l.length)) (dIntS (rdT F fr to)):=by
    have:=dle_closeK (K:=[0,1]) (l:=rdT F fr to) (H:=H1.set s.id (.row 1 (rI (rdT F fr to)))) (id:=s.id) (by simp;omega) (List.getElem?_set_self hidl)
    rw [rdT_len,← hlen] at this
    exact this
  generalize H1.set s.id (.row 1 (rI (rdT F fr to)))=H2 at n0 n1 nT ⊢
  refine W_weak (IntoF.weak (σ:=[0,1]) (l:=[(3,.ptr 0 2 0 0),(6,.ptr 1 2 0 0),(7,.d (dIntS (rdT F fr to)))]) (H:=[.row 2 [[.d (.int .i64 F.params_),.d (dBlockS F.blocks_)]],.row 2 [[.d (.int .i64 0),.d .nilsl]]]) ⟨rfl, ?_, ?_⟩) ?_
  · simp [n0,n1]
    exact ⟨.inl (by simp),.inl (by simp)⟩
  · simp [nT]
  · refine W_run mixed ⟨[K_103,K_113],[K_103h,K_113h],[112],18,0,[0,1,2,3,6,7],[]⟩ (fun _=>[]) (by kernel_rfl) ?_
    simp only [stripX,stripOps,pickOps]
    simp [K_103_f,K_103_e,K_113_f,K_113_e,K_103h_f,K_103h_e,K_113h_f,K_113h_e,K_103h_g,K_113h_g,hF,heq,h8]
    exact hok
noncomputable def K_66:Ent Tryz.prog:=Ent.p3 (α:=Func) (β:=Int) (γ:=Int) 66 (fun F fr to=>Enc.good F∧goodF F=true∧0≤fr∧fr < many F) (fun F fr to=>vFunc (mpF (rdG fr to) F)) (fun F fr to hc=>l15Redirect_c F fr to hc.1 hc.2.1 hc.2.2.1 hc.2.2.2)
theorem K_66_f:K_66.f=66:=rfl
theorem K_66_e (F0:Int) (F1:List Block) (fr:Int) (to:Int):K_66.e [.agg [.d (.int .i64 F0),.d (dBlockS F1)],.d (.int .i64 fr),.d (.int .i64 to)]=some (Enc.good (Func.mk F0 F1)∧goodF (Func.mk F0 F1)=true∧0≤fr∧fr < many (Func.mk F0 F1),vFunc (mpF (rdG fr to) (Func.mk F0 F1)),[]):=by unfold K_66;exact Ent.p3_eq (α:=Func) (β:=Int) (γ:=Int) (Func.mk F0 F1) fr to
noncomputable def K_66h:EntH Tryz.prog:=EntH.pk3 (α:=Func) (β:=Int) (γ:=Int) 66 (fun F fr to=>Enc.good F∧goodF F=true∧0≤fr∧fr < many F) (fun F fr to=>vFunc (mpF (rdG fr to) F)) (fun F fr to=>[]) (fun F fr to hc=>PureP.ans (l15Redirect_c F fr to hc.1 hc.2.1 hc.2.2.1 hc.2.2.2))
theorem K_66h_f:K_66h.f=66:=rfl
theorem K_66h_g:K_66h.gro=true:=rfl
theorem K_66h_e {x1 x2 x3:V} {H:Heap}:K_66h.e [x1,x2,x3] H=guardR ((decA (α:=Func) H x1).1∧(decA (α:=Int) H x2).1∧(decA (α:=Int) H x3).1) (peekR (Enc.good (decA (α:=Func) H x1).2∧goodF (decA (α:=Func) H x1).2=true∧0≤(decA (α:=Int) H x2).2∧(decA (α:=Int) H x2).2 < many (decA (α:=Func) H x1).2) (vFunc (mpF (rdG (decA (α:=Int) H x2).2 (decA (α:=Int) H x3).2) (decA (α:=Func) H x1).2)) ([]) H):=rfl
noncomputable def rdOk (F:Func) (fr to:Int):Bool:=soundF F && (isVal F fr && isVal F to)
noncomputable def rdF (F:Func) (fr to:Int):Func:=if rdOk F fr to=true then mpF (rdG fr to) F else ⟨0,[]⟩
theorem redirectS_c (F : Func) (fr to : Int) (hF : Enc.good F) : PureP Tryz.prog 19 [vFunc F, .d (.int .i64 fr), .d (.int .i64 to)] (· = .tup [vFunc (rdF F fr to), .d (.bool (rdOk F fr to))]) := by
  cases hs:soundF F with
  | false =>
    have h1:rdOk F fr to=false:=by simp [rdOk,hs]
    have h2:rdF F fr to=⟨0,[]⟩:=by simp [rdF,h1]
    refine PureP.le (pure_of Tryz.func19 en_19 rfl rfl (W_run mixed ⟨[K_65,K_51,K_66],[K_65h,K_51h,K_66h],[],28,0,[0,1,2,3,6,7,22],[11,17,22]⟩ (fun _=>[]) (by kernel_rfl) ?_))
    simp only [Tryz.f19,stripX,stripOps,pickOps]
    simp [K_65_f,K_65_e,K_51_f,K_51_e,K_66_f,K_66_e,K_65h_f,K_65h_e,K_51h_f,K_51h_e,K_66h_f,K_66h_e,K_65h_g,K_51h_g,K_66h_g,hF,hs]
    simp [h1,h2,VLe,VLes,DLe]
  | true =>
    cases ha:isVal F fr with
    | false =>
      have h1:rdOk F fr to=false:=by simp [rdOk,ha]
      have h2:rdF F fr to=⟨0,[]⟩:=by simp [rdF,h1]
      refine PureP.le (pure_of Tryz.func19 en_19 rfl rfl (W_run mixed ⟨[K_65,K_51,K_66],[K_65h,K_51h,K_66h],[],28,0,[0,1,2,3,6,7,22],[11,17,22]⟩ (fun _=>[]) (by kernel_rfl) ?_))
      simp only [Tryz.f19,stripX,stripOps,pickOps]
      simp [K_65_f,K_65_e,K_51_f,K_51_e,K_66_f,K_66_e,K_65h_f,K_65h_e,K_51h_f,K_51h_e,K_66h_f,K_66h_e,K_65h_g,K_51h_g,K_66h_g,hF,hs,ha]
      simp [h1,h2,VLe,VLes,DLe]
    | true =>
      cases hb:isVal F to with
      | false =>
        have h1:rdOk F fr to=false:=by simp [rdOk,hb]
        have h2:rdF F fr to=⟨0,[]⟩:=by simp [rdF,h1]
        refine PureP.le (pure_of Tryz.func19 en_19 rfl rfl (W_run mixed ⟨[K_65,K_51,K_66],[K_65h,K_51h,K_66h],[],28,0,[0,1,2,3,6,7,22],[11,17,22]⟩ (fun _=>[]) (by kernel_rfl) ?_))
        simp only [Tryz.f19,stripX,stripOps,pickOps]
        simp [K_65_f,K_65_e,K_51_f,K_51_e,K_66_f,K_66_e,K_65h_f,K_65h_e,K_51h_f,K_51h_e,K_66h_f,K_66h_e,K_65h_g,K_51h_g,K_66h_g,hF,hs,ha,hb]
        simp [h1,h2,VLe,VLes,DLe]
      | true =>
        have h1:rdOk F fr to=true:=by simp [rdOk,hs,ha,hb]
        have h2:rdF F fr to=mpF (rdG fr to) F:=by simp [rdF,h1]
        obtain ⟨hg,f0,f1⟩:=isVal_t ha
        refine pure_of Tryz.func19 en_19 rfl rfl (W_run mixed ⟨[K_65,K_51,K_66],[K_65h,K_51h,K_66h],[],28,0,[0,1,2,3,6,7,22],[11,17,22]⟩ (fun _=>[]) (by kernel_rfl) ?_)
        simp only [Tryz.f19,stripX,stripOps,pickOps]
        simp [K_65_f,K_65_e,K_51_f,K_51_e,K_66_f,K_66_e,K_65h_f,K_65h_e,K_51h_f,K_51h_e,K_66h_f,K_66h_e,K_65h_g,K_51h_g,K_66h_g,hF,hs,ha,hb,hg,f0,f1]
        simp [h1,h2]
noncomputable def K_19:Ent Tryz.prog:=Ent.p3 (α:=Func) (β:=Int) (γ:=Int) 19 (fun F fr to=>Enc.good F) (fun F fr to=>.tup [vFunc (rdF F fr to),.d (.bool (rdOk F fr to))]) (fun F fr to hc=>redirectS_c F fr to hc)
theorem K_19_f:K_19.f=19:=rfl
theorem K_19_e (F0:Int) (F1:List Block) (fr:Int) (to:Int):K_19.e [.agg [.d (.int .i64 F0),.d (dBlockS F1)],.d (.int .i64 fr),.d (.int .i64 to)]=some (Enc.good (Func.mk F0 F1),.tup [vFunc (rdF (Func.mk F0 F1) fr to),.d (.bool (rdOk (Func.mk F0 F1) fr to))],[]):=by unfold K_19;exact Ent.p3_eq (α:=Func) (β:=Int) (γ:=Int) (Func.mk F0 F1) fr to
noncomputable def K_19h:EntH Tryz.prog:=EntH.pk3 (α:=Func) (β:=Int) (γ:=Int) 19 (fun F fr to=>Enc.good F) (fun F fr to=>.tup [vFunc (rdF F fr to),.d (.bool (rdOk F fr to))]) (fun F fr to=>[]) (fun F fr to hc=>PureP.ans (redirectS_c F fr to hc))
theorem K_19h_f:K_19h.f=19:=rfl
theorem K_19h_g:K_19h.gro=true:=rfl
theorem K_19h_e {x1 x2 x3:V} {H:Heap}:K_19h.e [x1,x2,x3] H=guardR ((decA (α:=Func) H x1).1∧(decA (α:=Int) H x2).1∧(decA (α:=Int) H x3).1) (peekR (Enc.good (decA (α:=Func) H x1).2) (.tup [vFunc (rdF (decA (α:=Func) H x1).2 (decA (α:=Int) H x2).2 (decA (α:=Int) H x3).2),.d (.bool (rdOk (decA (α:=Func) H x1).2 (decA (α:=Int) H x2).2 (decA (α:=Int) H x3).2))]) ([]) H):=rfl
end Go.Proofs.YtnomiclfiijniaaGreat
