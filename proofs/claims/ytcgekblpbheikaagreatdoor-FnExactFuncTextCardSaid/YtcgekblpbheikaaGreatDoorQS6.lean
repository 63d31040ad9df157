/- Contracts of slices.Repeat over one number, and of the program's numbering of values. No condition. -/
import Derived.Test.YtcgekblpbheikaaGreatDoorQS5
namespace Go.Proofs.YtcgekblpbheikaaGreatDoor
set_option maxRecDepth 100000
set_option linter.unusedSimpArgs false
set_option linter.unusedVariables false
theorem fdiv_small {y:Int} (h0:0≤y) (h1:y < 4294967296):y.fdiv 4294967296=0:=by
  rw [Int.fdiv_eq_ediv_of_nonneg _ (by omega)]
  omega
theorem wrapU_id {n:Int} (h1:0≤n) (h2:n≤9223372036854775807):IntKind.u64.wrap n=n:=by
  simp [IntKind.wrap,IntKind.signed,IntKind.bits]
  omega
theorem mask64 {y:Int} (h0:0≤y) (h1:y < 4294967296):(y % 2 ^ IntKind.u64.bits).toNat &&& 4294967295 % 2 ^ IntKind.u64.bits=y.toNat:=by
  have eb:IntKind.u64.bits=64:=rfl
  rw [eb]
  have e1:(y % 2 ^ 64).toNat=y.toNat:=by omega
  have e2:(4294967295 % 2 ^ 64:Nat)=2 ^ 32 - 1:=by decide
  rw [e1,e2,Nat.and_two_pow_sub_one_eq_mod,Nat.mod_eq_of_lt (by omega)]
theorem mul64_c (y:Int) (h0:0≤y) (h1:y < 4294967296):PureP Tryz.prog 310 [.d (.int .u64 1),.d (.int .u64 y)] (· = .tup [.d (.int .u64 0),.d (.int .u64 y)]):=by
  have e1:IntKind.u64.wrap y=y:=wrapU_id h0 (by omega)
  have e0:IntKind.u64.wrap 0=0:=by decide
  have e2:IntKind.u64.wrap 1=1:=by decide
  have f1:=mask64 h0 h1
  have f2:y.fdiv (2 ^ min 32 IntKind.u64.bits)=0:=fdiv_small h0 h1
  have f3:Int.fdiv 1 (2 ^ min 32 IntKind.u64.bits)=0:=by decide
  have f4:(1 % 2 ^ IntKind.u64.bits &&& 4294967295 % 2 ^ IntKind.u64.bits:Nat)=1:=by decide
  have f5:((y.toNat:Nat):Int)=y:=by omega
  have f6:((0:Int) % 2 ^ IntKind.u64.bits).toNat &&& 4294967295 % 2 ^ IntKind.u64.bits=0:=by decide
  have f7:Int.fdiv 0 (2 ^ min 32 IntKind.u64.bits)=0:=by decide
  refine pure_of Tryz.func310 en_310 rfl rfl (W_run mixed ⟨[],[],[],51,0,[0,1,4,5,6,7,8,9,10,11,12,13],[]⟩ (fun _=>[]) (by kernel_rfl) ?_)
  simp only [Tryz.f310,stripX,stripOps,pickOps]
  simp []
  simp only [f1,f2,f3,f4,f5,f6,f7,e0,e1,e2,Int.zero_mul,Int.mul_zero,Int.one_mul,Int.zero_add,Int.add_zero,Int.natCast_one,Int.natCast_zero,Int.ofNat_one]
  simp [f1,f2,f3,f4,f5,f6,f7,e0,e1,e2]
theorem mul64_c' (x y:Int) (hx:x=1) (h0:0≤y) (h1:y < 4294967296):PureP Tryz.prog 310 [.d (.int .u64 x),.d (.int .u64 y)] (· = .tup [.d (.int .u64 0),.d (.int .u64 y)]):=by
  subst hx;exact mul64_c y h0 h1
noncomputable def K_310:Ent Tryz.prog:=Ent.p2 (α:=KInt .u64) (β:=KInt .u64) 310 (fun x y=>x.v=1∧0≤y.v∧y.v < 4294967296) (fun x y=>.tup [.d (.int .u64 0),.d (.int .u64 y.v)]) (fun x y hc=>mul64_c' x.v y.v hc.1 hc.2.1 hc.2.2)
theorem K_310_f:K_310.f=310:=rfl
theorem K_310_e (x:Int) (y:Int):K_310.e [.d (.int .u64 x),.d (.int .u64 y)]=some (x=1∧0≤y∧y < 4294967296,.tup [.d (.int .u64 0),.d (.int .u64 y)],[]):=by unfold K_310;exact Ent.p2_eq (α:=KInt .u64) (β:=KInt .u64) (KInt.mk x) (KInt.mk y)
noncomputable def K_310h:EntH Tryz.prog:=EntH.pk2 (α:=KInt .u64) (β:=KInt .u64) 310 (fun x y=>x.v=1∧0≤y.v∧y.v < 4294967296) (fun x y=>.tup [.d (.int .u64 0),.d (.int .u64 y.v)]) (fun x y=>[]) (fun x y hc=>PureP.ans (mul64_c' x.v y.v hc.1 hc.2.1 hc.2.2))
theorem K_310h_f:K_310h.f=310:=rfl
theorem K_310h_g:K_310h.gro=true:=rfl
theorem K_310h_e {x1 x2:V} {H:Heap}:K_310h.e [x1,x2] H=guardR ((decA (α:=KInt .u64) H x1).1∧(decA (α:=KInt .u64) H x2).1) (peekR ((decA (α:=KInt .u64) H x1).2.v=1∧0≤(decA (α:=KInt .u64) H x2).2.v∧(decA (α:=KInt .u64) H x2).2.v < 4294967296) (.tup [.d (.int .u64 0),.d (.int .u64 (decA (α:=KInt .u64) H x2).2.v)]) ([]) H):=rfl
theorem mul_c (x y:Int) (hx:x=1) (h0:0≤y) (h1:y < 4294967296):PureP Tryz.prog 280 [.d (.int .u64 x),.d (.int .u64 y)] (· = .tup [.d (.int .u64 0),.d (.int .u64 y)]):=by
  refine pure_of Tryz.func280 en_280 rfl rfl (W_run mixed ⟨[K_310],[K_310h],[309],30,0,[0,1,4,5,6,7,8,9],[]⟩ (fun _=>[]) (by kernel_rfl) ?_)
  simp only [Tryz.f280,stripX,stripOps,pickOps]
  simp [K_310_f,K_310_e,K_310h_f,K_310h_e,K_310h_g,hx,h0,h1]
noncomputable def K_280:Ent Tryz.prog:=Ent.p2 (α:=KInt .u64) (β:=KInt .u64) 280 (fun x y=>x.v=1∧0≤y.v∧y.v < 4294967296) (fun x y=>.tup [.d (.int .u64 0),.d (.int .u64 y.v)]) (fun x y hc=>mul_c x.v y.v hc.1 hc.2.1 hc.2.2)
theorem K_280_f:K_280.f=280:=rfl
theorem K_280_e (x:Int) (y:Int):K_280.e [.d (.int .u64 x),.d (.int .u64 y)]=some (x=1∧0≤y∧y < 4294967296,.tup [.d (.int .u64 0),.d (.int .u64 y)],[]):=by unfold K_280;exact Ent.p2_eq (α:=KInt .u64) (β:=KInt .u64) (KInt.mk x) (KInt.mk y)
noncomputable def K_280h:EntH Tryz.prog:=EntH.pk2 (α:=KInt .u64) (β:=KInt .u64) 280 (fun x y=>x.v=1∧0≤y.v∧y.v < 4294967296) (fun x y=>.tup [.d (.int .u64 0),.d (.int .u64 y.v)]) (fun x y=>[]) (fun x y hc=>PureP.ans (mul_c x.v y.v hc.1 hc.2.1 hc.2.2))
theorem K_280h_f:K_280h.f=280:=rfl
theorem K_280h_g:K_280h.gro=true:=rfl
theorem K_280h_e {x1 x2:V} {H:Heap}:K_280h.e [x1,x2] H=guardR ((decA (α:=KInt .u64) H x1).1∧(decA (α:=KInt .u64) H x2).1) (peekR ((decA (α:=KInt .u64) H x1).2.v=1∧0≤(decA (α:=KInt .u64) H x2).2.v∧(decA (α:=KInt .u64) H x2).2.v < 4294967296) (.tup [.d (.int .u64 0),.d (.int .u64 (decA (α:=KInt .u64) H x2).2.v)]) ([]) H):=rfl
theorem repeat1_c (v n:Int) (h0:0≤n) (h1:n≤1000000):CallsD Tryz.prog 219 [.d (dIntS [v]),.d (.int .i64 n)] [] fun r H=>r=.sl 0 1 0 n.toNat∧H=[.row 1 (List.replicate n.toNat [.d (.int .i64 v)])]:=by
  have e1:IntKind.u64.wrap n=n:=wrapU_id h0 (by omega)
  have e2:IntKind.i64.wrap n=n:=wrap_id (by omega) (by omega)
  have e3:n < 4294967296:=by omega
  have e4:IntKind.u64.wrap 1=1:=by decide
  have e5:n * 8≤140737488355328:=by omega
  have e6:n≤140737488355328:=by omega
  have e7:¬ n < 0:=by omega
  have e8:¬ 9223372036854775807 < n:=by omega
  refine calls_of Tryz.func219 en_219 rfl (of_decide_eq_true rfl) (W_run mixed ⟨[K_280],[K_280h],[],48,0,[0,1,4,5,6,7,8,10,26,37],[10,23,26,37]⟩ (fun | 9=>[0,1,2,3,4,5,6,7,8,9] | _=>[]) (by kernel_rfl) ?_)
  simp only [Tryz.f219,stripX,stripOps,pickOps]
  simp [K_280_f,K_280_e,K_280h_f,K_280h_e,K_280h_g,e1,e2,e3,e4,e5,e6,e7,e8,h0]
  generalize hN:n.toNat=N
  have hN1:N≤1000000:=by omega
  refine W_loopA (fun m:Nat=>[(7,.sl 0 1 0 N),(8,.d (.int .i64 m))]) (fun m=>[.row 1 (List.replicate m [.d (.int .i64 v)]++List.replicate (N - m) [.d (.int .i64 0)])]) (fun m=>m≤N∧(m=0→N=0)) (fun m=>N - m) (min 1 N) ?_ ?_ ?_
  · cases N with
    | zero=>simp
    | succ N=>simp
  · omega
  rintro m ⟨hm,hm0⟩
  refine W_run mixed ⟨[K_280],[K_280h],[],48,0,[0,1,4,5,6,7,8,10,26,37],[10,23,26,37]⟩ (fun | 9=>[0,1,2,3,4,5,6,7,8,9] | _=>[]) (by kernel_rfl) ?_
  simp only [stripX,stripOps,pickOps]
  simp [K_280_f,K_280_e,K_280h_f,K_280h_e,K_280h_g]
  refine ⟨fun h=>⟨hm,m + min m (N - m),⟨by omega,by omega⟩,by omega, ?_,by rw [wrap_id] <;> omega⟩,fun h=>?_⟩
  · rw [Nat.min_comm (N - m) m]
    congr 1
    rw [List.drop_append,List.drop_eq_nil_of_le (by simp),List.nil_append,List.drop_replicate,List.length_replicate]
    congr 1
    omega
  · have e:m=N:=by omega
    subst e
    refine ⟨_,_,Fin.same (Nat.zero_le _),rfl, ?_⟩
    simp
noncomputable def K_219:Ent Tryz.prog:=Ent.o2 (α:=List Int) (β:=Int) 219 (fun l n=>l.length=1∧0≤n∧n≤1000000) (fun l n=>.sl 0 1 0 n.toNat) (fun l n=>[.row 1 (List.replicate n.toNat [.d (.int .i64 (l[0]?.getD 0))])]) (fun l n hc H=>(by
    obtain ⟨h1,h2,h3⟩:=hc
    obtain ⟨v,rfl⟩:=List.length_eq_one_iff.1 h1
    exact CallsD.good (repeat1_c v n h2 h3) rfl H))
theorem K_219_f:K_219.f=219:=rfl
theorem K_219_e (l:List Int) (n:Int):K_219.e [.d (dIntS l),.d (.int .i64 n)]=some (l.length=1∧0≤n∧n≤1000000,.sl 0 1 0 n.toNat,[.row 1 (List.replicate n.toNat [.d (.int .i64 (l[0]?.getD 0))])]):=by unfold K_219;exact Ent.o2_eq (α:=List Int) (β:=Int) l n
noncomputable def K_219h:EntH Tryz.prog:=EntH.pk2 (α:=List Int) (β:=Int) 219 (fun l n=>l.length=1∧0≤n∧n≤1000000) (fun l n=>.sl 0 1 0 n.toNat) (fun l n=>[.row 1 (List.replicate n.toNat [.d (.int .i64 (l[0]?.getD 0))])]) (fun l n hc=>CallsD.ans ((by
    obtain ⟨h1,h2,h3⟩:=hc
    obtain ⟨v,rfl⟩:=List.length_eq_one_iff.1 h1
    exact CallsD.good (repeat1_c v n h2 h3) rfl [])))
theorem K_219h_f:K_219h.f=219:=rfl
theorem K_219h_g:K_219h.gro=true:=rfl
theorem K_219h_e {x1 x2:V} {H:Heap}:K_219h.e [x1,x2] H=guardR ((decA (α:=List Int) H x1).1∧(decA (α:=Int) H x2).1) (peekR ((decA (α:=List Int) H x1).2.length=1∧0≤(decA (α:=Int) H x2).2∧(decA (α:=Int) H x2).2≤1000000) (.sl 0 1 0 (decA (α:=Int) H x2).2.toNat) ([.row 1 (List.replicate (decA (α:=Int) H x2).2.toNat [.d (.int .i64 ((decA (α:=List Int) H x1).2[0]?.getD 0))])]) H):=rfl
def blkOf:List Block→Nat→List Int
  | [],_=>[]
  | b :: bs,k=>List.replicate (IntKind.i64.wrap (b.params_ + b.insts_.length)).toNat (k:Int)++blkOf bs (k + 1)
def firsts:List Block→Int→List Int
  | [],_=>[]
  | b :: bs,n=>n :: firsts bs (IntKind.i64.wrap (n + IntKind.i64.wrap (b.params_ + b.insts_.length)))
def viewD (F:Func):View:=⟨F.params_,F.blocks_,firsts F.blocks_ F.params_,List.replicate F.params_.toNat (-1)++blkOf F.blocks_ 0,many F⟩
def numOk (F:Func):Bool:=inR F.params_ 0 4 && (inR F.blocks_.length 1 8 && (decide ((F.blocks_[0]?.getD default).params_=0) && F.blocks_.all headOk))
abbrev rI (l:List Int):List (List V):=l.map fun n=>[.d (.int .i64 n)]
@[simp] def fPlace:List Int→V
  | []=>.d .nilsl
  | f :: l=>.sl 3 1 0 (f :: l).length
@[simp] def fRow:List Int→Heap
  | []=>[]
  | f :: l=>[.row 1 (rI (f :: l))]
def numV (F:Func):V:=if numOk F=true then .tup [.d (.rp 5 (dView (viewD F))),.d (.bool (decide (many F≤80)))] else .tup [.d .nilp,.d (.bool false)]
theorem numV_bad {F:Func} (h:numOk F=false):VLe (.tup [.d .nilp,.d (.bool false)]) (numV F):=by simp [numV,h,VLe,VLes,DLe]
@[simp] theorem take_map_len {α β:Type} (f:α→β) (l:List α):List.take l.length (List.map f l)=List.map f l:=List.take_of_length_le (by simp)
theorem rI_get (l:List Int) {i:Nat} (h:i < l.length):(rI l)[i]? = some [.d (.int .i64 (l[i]?.getD default))]:=by
  simp [rI,h]
theorem closeD_rI {H:Heap} {id f:Nat} {l:List Int} (h:H[id]? = some (.row 1 (rI l))):DLe (closeD H (f + 2) (.sl id 1 0 l.length)) (dIntS l):=by
  simp only [closeD,h]
  rw [if_pos (by simp)]
  simp only [DLe]
  refine ⟨trivial,trivial,fun i hi j hj=>?_⟩
  have:j=0:=by omega
  subst this
  rw [Nat.zero_add,rI_get l hi]
  cases f <;> simp [closeD]
set_option maxHeartbeats 400000 in
theorem numbered_c (F : Func) (hF : Enc.good F) : PureP Tryz.prog 150 [vFunc F] (· = numV F) := by
  have hbs:Enc.good F.blocks_:=hF.2
  have hlb:=good_len hbs
  have hgb:=good_get hbs
  refine PureP.le (pure_of Tryz.func150 en_150 rfl rfl (W_run mixed ⟨[K_83,K_219],[K_83h,K_219h],[1000219],103,0,[0,1,2,3,4,5,6,25,36,37,38,39,52],[11,18,25,39,47,52]⟩ (fun | 3=>[2,5,0,3,6,1,4,7,8,9] | 9=>[0,1,2,3,5,6,7,4,8,9,10,11,12,13] | 10=>[0,1,2,4,6,3,5,7,8,9,10,11,12,13] | 11=>[0,1,2,3,5,7,9,4,8,10,11,12,6,13,14,15,16,17] | 13=>[0,1,2,3,6,4,5,7] | _=>[]) (by kernel_rfl) ?_))
  simp only [Tryz.f150,stripX,stripOps,pickOps]
  simp [K_83_f,K_83_e,K_219_f,K_219_e,K_83h_f,K_83h_e,K_219h_f,K_219h_e,K_83h_g,K_219h_g,hF]
  refine ⟨fun g1=>numV_bad (by simp [numOk,g1]),fun g1=>⟨fun g2=>numV_bad (by simp [numOk,g2]),fun g2=>?_⟩⟩
  have hl:=inR_t.1 g2
  have hp:=inR_t.1 g1
  refine ⟨by omega,fun g3=>numV_bad (by simp [numOk,g3]),fun g3=>⟨by omega, ?_⟩⟩
  refine W_loopS (α:=Nat × List Int × List Int × Int) (fun a=>[(1,.ptr 0 2 0 0),(4,.ptr 1 5 0 0),(36,.d (dBlockS F.blocks_)),(37,.d (.int .i64 F.blocks_.length)),(38,.d (.int .i64 a.1))])
    (fun a=>[.row 2 [[.d (.int .i64 F.params_),.d (dBlockS F.blocks_)]],.row 5 [[.d (.int .i64 F.params_),.d (dBlockS F.blocks_),fPlace a.2.1,.sl 2 1 0 a.2.2.1.length,.d (.int .i64 a.2.2.2)]],.row 1 (rI a.2.2.1)]++fRow a.2.1)
    (fun a=>a.1≤F.blocks_.length∧a.2.1.length=a.1∧a.2.2.1.length≤1000 * (a.1 + 1)∧a.2.1++firsts (F.blocks_.drop a.1) a.2.2.2=firsts F.blocks_ F.params_∧a.2.2.1++blkOf (F.blocks_.drop a.1) a.1=List.replicate F.params_.toNat (-1)++blkOf F.blocks_ 0∧cntB (F.blocks_.drop a.1) a.2.2.2=many F∧(F.blocks_.drop a.1).all headOk=F.blocks_.all headOk)
    (fun a=>F.blocks_.length - a.1) (0,[],List.replicate F.params_.toNat (-1),F.params_) [0,3,2] ?_ ?_ ?_
  · simp
  · simp [many];omega
  rintro ⟨i,fl,bl,tot⟩ ⟨hi,hfl,hbl,hf,hb,hc,hh⟩
  simp only [] at hi hfl hbl hf hb hc hh
  have badH:F.blocks_.all headOk=false→VLe (.tup [.d .nilp,.d (.bool false)]) (numV F):=fun e=>numV_bad (by simp [numOk,e])
  have hcnt:∀ p n:Int,inR p 0 4=true→0≤n→n≤80→IntKind.i64.wrap (p + n)=p + n:=fun p n h1 h2 h3=>by have:=inR_t.1 h1;exact wrap_id (by omega) (by omega)
  cases fl with
  | nil =>
    refine W_run mixed ⟨[K_83,K_219],[K_83h,K_219h],[1000219],103,0,[0,1,2,3,4,5,6,25,36,37,38,39,52],[11,18,25,39,47,52]⟩ (fun | 3=>[2,5,0,3,6,1,4,7,8,9] | 9=>[0,1,2,3,5,6,7,4,8,9,10,11,12,13] | 10=>[0,1,2,4,6,3,5,7,8,9,10,11,12,13] | 11=>[0,1,2,3,5,7,9,4,8,10,11,12,6,13,14,15,16,17] | 13=>[0,1,2,3,6,4,5,7] | _=>[]) (by kernel_rfl) ?_
    simp only [stripX,stripOps,pickOps]
    simp [K_83_f,K_83_e,K_219_f,K_219_e,K_83h_f,K_83h_e,K_219h_f,K_219h_e,K_83h_g,K_219h_g,hF]
    obtain rfl:i=0:=by simpa using hfl.symm
    refine ⟨fun h=>⟨h,fun q1=>?_,fun q1=>⟨fun q2=>?_,fun q2=>?_⟩⟩,fun h=>by omega⟩
    · rw [drop_cons h,List.all_cons] at hh
      exact badH (by rw [← hh];simp [headOk,q1])
    · rw [drop_cons h,List.all_cons] at hh
      exact badH (by rw [← hh];simp [headOk,q1];intro h3;omega)
    rw [drop_cons h] at hf hb hc hh
    rw [cntB_cons] at hc
    simp only [Nat.zero_add] at hf hb hc hh
    have hw:=hcnt _ _ q1 (by omega) q2
    have hq:=inR_t.1 q1
    rw [List.all_cons] at hh
    refine ⟨by omega,⟨by omega,by omega⟩,1,[tot],bl++List.replicate (IntKind.i64.wrap ((F.blocks_[0]?.getD default).params_ + ((F.blocks_[0]?.getD default).insts_.length:Int))).toNat 0,IntKind.i64.wrap (tot + IntKind.i64.wrap ((F.blocks_[0]?.getD default).params_ + ((F.blocks_[0]?.getD default).insts_.length:Int))),⟨?_, ?_, ?_, ?_, ?_, ?_, ?_⟩, ?_,[0,1,8,5], ?_⟩
    · omega
    · rfl
    · simp only [List.length_append,List.length_replicate,List.length_nil] at hw hq q2 ⊢
      omega
    · simpa [firsts] using hf
    · rw [← hb];simp [blkOf]
    · exact hc
    · rw [← hh];simp [headOk,q1];intro _;omega
    · omega
    · simp
      decide
  | cons f fl =>
    refine W_run mixed ⟨[K_83,K_219],[K_83h,K_219h],[1000219],103,0,[0,1,2,3,4,5,6,25,36,37,38,39,52],[11,18,25,39,47,52]⟩ (fun | 3=>[2,5,0,3,6,1,4,7,8,9] | 9=>[0,1,2,3,5,6,7,4,8,9,10,11,12,13] | 10=>[0,1,2,4,6,3,5,7,8,9,10,11,12,13] | 11=>[0,1,2,3,5,7,9,4,8,10,11,12,6,13,14,15,16,17] | 13=>[0,1,2,3,6,4,5,7] | _=>[]) (by kernel_rfl) ?_
    simp only [stripX,stripOps,pickOps]
    simp [K_83_f,K_83_e,K_219_f,K_219_e,K_83h_f,K_83h_e,K_219h_f,K_219h_e,K_83h_g,K_219h_g,hF]
    refine ⟨fun h=>⟨h,fun q1=>?_,fun q1=>⟨fun q2=>?_,fun q2=>?_⟩⟩,fun h=>?_⟩
    · rw [drop_cons h,List.all_cons] at hh
      exact badH (by rw [← hh];simp [headOk,q1])
    · rw [drop_cons h,List.all_cons] at hh
      exact badH (by rw [← hh];simp [headOk,q1];intro h3;omega)
    · rw [drop_cons h] at hf hb hc hh
      have hw:=hcnt _ _ q1 (by omega) q2
      have hq:=inR_t.1 q1
      rw [List.all_cons] at hh
      simp only [List.length_cons] at hfl
      refine ⟨⟨by omega,by omega⟩,⟨by omega,by omega⟩,⟨by omega,by omega⟩,i + 1,f :: (fl++[tot]),bl++List.replicate (IntKind.i64.wrap ((F.blocks_[i]?.getD default).params_ + ((F.blocks_[i]?.getD default).insts_.length:Int))).toNat (i:Int),IntKind.i64.wrap (tot + IntKind.i64.wrap ((F.blocks_[i]?.getD default).params_ + ((F.blocks_[i]?.getD default).insts_.length:Int))),⟨by omega,by simp;omega, ?_, ?_, ?_,hc, ?_⟩,by omega,[0,1,9,6], ?_⟩
      · simp only [List.length_append,List.length_replicate]
        omega
      · simpa [firsts] using hf
      · rw [← hb];simp [blkOf]
      · rw [← hh];simp [headOk,q1];intro _;omega
      · simp
        rw [wrap_id] <;> omega
    · have e:i=F.blocks_.length:=by omega
      subst e
      rw [List.drop_eq_nil_of_le (Nat.le_refl _)] at hf hb hc hh
      simp only [firsts,blkOf,List.append_nil,cntB,List.foldl_nil] at hf hb hc
      have hn:numOk F=true:=by simp [numOk,g1,g2,g3];simpa using hh.symm
      rw [numV,if_pos hn]
      subst hc
      refine ⟨⟨Nat.le_refl _,fun j hj=>?_⟩,rfl,rfl⟩
      rcases (by omega:j=0∨j=1∨j=2∨j=3∨j=4) with rfl | rfl | rfl | rfl | rfl
      · simp [viewD,closeD]
      · simp [viewD,closeD]
      · show DLe (closeD _ 3 (.sl 3 1 0 (fl.length + 1))) (dIntS (firsts F.blocks_ F.params_))
        rw [← hf]
        exact closeD_rI (l:=f :: fl) rfl
      · show DLe (closeD _ 3 (.sl 2 1 0 bl.length)) (dIntS (List.replicate F.params_.toNat (-1)++blkOf F.blocks_ 0))
        rw [← hb]
        exact closeD_rI rfl
      · simp [viewD,closeD]
noncomputable def K_150:Ent Tryz.prog:=Ent.p1 (α:=Func) 150 (fun F=>Enc.good F) (fun F=>numV F) (fun F hc=>numbered_c F hc)
theorem K_150_f:K_150.f=150:=rfl
theorem K_150_e (F0:Int) (F1:List Block):K_150.e [.agg [.d (.int .i64 F0),.d (dBlockS F1)]]=some (Enc.good (Func.mk F0 F1),numV (Func.mk F0 F1),[]):=by unfold K_150;exact Ent.p1_eq (α:=Func) (Func.mk F0 F1)
noncomputable def K_150h:EntH Tryz.prog:=EntH.pk1 (α:=Func) 150 (fun F=>Enc.good F) (fun F=>numV F) (fun F=>[]) (fun F hc=>PureP.ans (numbered_c F hc))
theorem K_150h_f:K_150h.f=150:=rfl
theorem K_150h_g:K_150h.gro=true:=rfl
theorem K_150h_e {x1:V} {H:Heap}:K_150h.e [x1] H=guardR ((decA (α:=Func) H x1).1) (peekR (Enc.good (decA (α:=Func) H x1).2) (numV (decA (α:=Func) H x1).2) ([]) H):=rfl
theorem viewD_blocks (F:Func):(viewD F).blocks_=F.blocks_:=rfl
theorem viewD_total (F:Func):(viewD F).total_=many F:=rfl
theorem goodF_num (F:Func):goodF F=(numOk F && (decide (many F≤80) && F.blocks_.all (bodyOk F.blocks_ (many F)))):=by
  simp [goodF,numOk,Bool.and_assoc]
def viewV (F:Func):D:=if goodF F=true then .rp 5 (dView (viewD F)) else .nilp
theorem viewV_t {F:Func} (h:goodF F=true):viewV F=.rp 5 (dView (viewD F)):=if_pos h
theorem viewV_f {F:Func} (h:goodF F=false):viewV F=.nilp:=if_neg (by simp [h])
theorem viewOf_c (F : Func) (hF : Enc.good F) : PureP Tryz.prog 77 [vFunc F] (· = .d (viewV F)) := by
  have hbs:Enc.good F.blocks_:=hF.2
  by_cases hn:numOk F=true
  · by_cases hm:many F≤80
    · refine pure_of Tryz.func77 en_77 rfl rfl (W_run mixed ⟨[K_150,K_blocks],[K_150h,K_blocksh],[],19,0,[0,1,2,3,4,17],[12,17]⟩ (fun _=>[]) (by kernel_rfl) ?_)
      simp only [Tryz.f77,stripX,stripOps,pickOps]
      simp [K_150_f,K_150_e,K_blocks_f,K_blocks_e,K_150h_f,K_150h_e,K_blocksh_f,K_blocksh_e,K_150h_g,K_blocksh_g,hF,numV,hn,hm,hbs,viewD_blocks,viewD_total]
      refine ⟨fun x hx h=>(viewV_f ?_).symm,fun h=>(viewV_t ?_).symm⟩
      · have:F.blocks_.all (bodyOk F.blocks_ (many F))=false:=List.all_eq_false.2 ⟨x,hx,by simp [h]⟩
        simp [goodF_num,this]
      · have:F.blocks_.all (bodyOk F.blocks_ (many F))=true:=List.all_eq_true.2 h
        simp [goodF_num,this,hn,hm]
    · refine pure_of Tryz.func77 en_77 rfl rfl (W_run mixed ⟨[K_150,K_blocks],[K_150h,K_blocksh],[],19,0,[0,1,2,3,4,17],[12,17]⟩ (fun _=>[]) (by kernel_rfl) ?_)
      simp only [Tryz.f77,stripX,stripOps,pickOps]
      simp [K_150_f,K_150_e,K_blocks_f,K_blocks_e,K_150h_f,K_150h_e,K_blocksh_f,K_blocksh_e,K_150h_g,K_blocksh_g,hF,numV,hn,hm,hbs,viewD_blocks,viewD_total]
      exact (viewV_f (by simp [goodF_num,hm])).symm
  · refine pure_of Tryz.func77 en_77 rfl rfl (W_run mixed ⟨[K_150,K_blocks],[K_150h,K_blocksh],[],19,0,[0,1,2,3,4,17],[12,17]⟩ (fun _=>[]) (by kernel_rfl) ?_)
    simp only [Tryz.f77,stripX,stripOps,pickOps]
    simp [K_150_f,K_150_e,K_blocks_f,K_blocks_e,K_150h_f,K_150h_e,K_blocksh_f,K_blocksh_e,K_150h_g,K_blocksh_g,hF,numV,hn,hbs,viewD_blocks,viewD_total]
    exact (viewV_f (by simp [goodF_num,hn])).symm
noncomputable def K_77:Ent Tryz.prog:=Ent.p1 (α:=Func) 77 (fun F=>Enc.good F) (fun F=>.d (viewV F)) (fun F hc=>viewOf_c F hc)
theorem K_77_f:K_77.f=77:=rfl
theorem K_77_e (F0:Int) (F1:List Block):K_77.e [.agg [.d (.int .i64 F0),.d (dBlockS F1)]]=some (Enc.good (Func.mk F0 F1),.d (viewV (Func.mk F0 F1)),[]):=by unfold K_77;exact Ent.p1_eq (α:=Func) (Func.mk F0 F1)
noncomputable def K_77h:EntH Tryz.prog:=EntH.pk1 (α:=Func) 77 (fun F=>Enc.good F) (fun F=>.d (viewV F)) (fun F=>[]) (fun F hc=>PureP.ans (viewOf_c F hc))
theorem K_77h_f:K_77h.f=77:=rfl
theorem K_77h_g:K_77h.gro=true:=rfl
theorem K_77h_e {x1:V} {H:Heap}:K_77h.e [x1] H=guardR ((decA (α:=Func) H x1).1) (peekR (Enc.good (decA (α:=Func) H x1).2) (.d (viewV (decA (α:=Func) H x1).2)) ([]) H):=rfl
end Go.Proofs.YtcgekblpbheikaaGreatDoor
