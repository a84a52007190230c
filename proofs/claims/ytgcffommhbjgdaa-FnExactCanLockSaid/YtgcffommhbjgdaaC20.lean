/- The data of the program, as Lean structures, and how they lie in cells. -/
import Derived.Test.YtgcffommhbjgdaaC19
set_option linter.unusedVariables false
namespace Go.BM
/-- A slice as a cell. -/
def sliceE {α : Type} (E : Enc α) : Enc (List α) := ⟨fun x => islE E x, 1, false, fun _ => rfl, fun _ => rfl, by decide, fun _ => Ok.cons (islE_ok _ _) Ok.nil⟩
theorem sliceE_sz {α : Type} (E : Enc α) : (sliceE E).sz = 1 := rfl
theorem sliceE_val {α : Type} (E : Enc α) (x : List α) : (sliceE E).val x = islE E x := rfl
structure TSign where
  key : Int
  id : Int
  deriving DecidableEq
def signE : Enc TSign := ⟨fun x => .agg #[.int .i64 x.key, .int .i64 x.id], 2, true, fun _ => rfl, fun _ => rfl, by decide, fun _ => Ok.cons (.int _ _) (Ok.cons (.int _ _) (Ok.nil))⟩
theorem signE_sz : signE.sz = 2 := rfl
theorem signE_val (x : TSign) : signE.val x = .agg #[.int .i64 x.key, .int .i64 x.id] := rfl
structure TRef where
  tx : Int
  at' : Int
  deriving DecidableEq
def refE : Enc TRef := ⟨fun x => .agg #[.int .i64 x.tx, .int .i64 x.at'], 2, true, fun _ => rfl, fun _ => rfl, by decide, fun _ => Ok.cons (.int _ _) (Ok.cons (.int _ _) (Ok.nil))⟩
theorem refE_sz : refE.sz = 2 := rfl
theorem refE_val (x : TRef) : refE.val x = .agg #[.int .i64 x.tx, .int .i64 x.at'] := rfl
structure TNode where
  id : Int
  prev : Int
  height : Int
  deriving DecidableEq
def nodeE : Enc TNode := ⟨fun x => .agg #[.int .i64 x.id, .int .i64 x.prev, .int .i64 x.height], 3, true, fun _ => rfl, fun _ => rfl, by decide, fun _ => Ok.cons (.int _ _) (Ok.cons (.int _ _) (Ok.cons (.int _ _) (Ok.nil)))⟩
theorem nodeE_sz : nodeE.sz = 3 := rfl
theorem nodeE_val (x : TNode) : nodeE.val x = .agg #[.int .i64 x.id, .int .i64 x.prev, .int .i64 x.height] := rfl
structure TChoice where
  ref : TRef
  tx : Int
  deriving DecidableEq
def choiceE : Enc TChoice := ⟨fun x => .agg #[.int .i64 x.ref.tx, .int .i64 x.ref.at', .int .i64 x.tx], 3, true, fun _ => rfl, fun _ => rfl, by decide, fun _ => Ok.cons (.int _ _) (Ok.cons (.int _ _) (Ok.cons (.int _ _) (Ok.nil)))⟩
theorem choiceE_sz : choiceE.sz = 3 := rfl
theorem choiceE_val (x : TChoice) : choiceE.val x = .agg #[.int .i64 x.ref.tx, .int .i64 x.ref.at', .int .i64 x.tx] := rfl
structure TMember where
  key : Int
  ref : TRef
  deriving DecidableEq
def memberE : Enc TMember := ⟨fun x => .agg #[.int .i64 x.key, .int .i64 x.ref.tx, .int .i64 x.ref.at'], 3, true, fun _ => rfl, fun _ => rfl, by decide, fun _ => Ok.cons (.int _ _) (Ok.cons (.int _ _) (Ok.cons (.int _ _) (Ok.nil)))⟩
theorem memberE_sz : memberE.sz = 3 := rfl
theorem memberE_val (x : TMember) : memberE.val x = .agg #[.int .i64 x.key, .int .i64 x.ref.tx, .int .i64 x.ref.at'] := rfl
structure TVote where
  key : Int
  kind : Int
  block : Int
  ref : TRef
  tx : Int
  deriving DecidableEq
def voteE : Enc TVote := ⟨fun x => .agg #[.int .i64 x.key, .int .i64 x.kind, .int .i64 x.block, .int .i64 x.ref.tx, .int .i64 x.ref.at', .int .i64 x.tx], 6, true, fun _ => rfl, fun _ => rfl, by decide, fun _ => Ok.cons (.int _ _) (Ok.cons (.int _ _) (Ok.cons (.int _ _) (Ok.cons (.int _ _) (Ok.cons (.int _ _) (Ok.cons (.int _ _) (Ok.nil))))))⟩
theorem voteE_sz : voteE.sz = 6 := rfl
theorem voteE_val (x : TVote) : voteE.val x = .agg #[.int .i64 x.key, .int .i64 x.kind, .int .i64 x.block, .int .i64 x.ref.tx, .int .i64 x.ref.at', .int .i64 x.tx] := rfl
structure TLedger where
  texts : List ByteArray
  signs : List TSign
  deriving DecidableEq
def ledgerE : Enc TLedger := ⟨fun x => .agg #[islE strE x.texts, islE signE x.signs], 2, true, fun _ => rfl, fun _ => rfl, by decide, fun _ => Ok.cons (islE_ok _ _) (Ok.cons (islE_ok _ _) (Ok.nil))⟩
theorem ledgerE_sz : ledgerE.sz = 2 := rfl
theorem ledgerE_val (x : TLedger) : ledgerE.val x = .agg #[islE strE x.texts, islE signE x.signs] := rfl
structure TRule where
  keys : List Int
  need : Int
  after : Int
  deriving DecidableEq
def ruleE : Enc TRule := ⟨fun x => .agg #[islE intE x.keys, .int .i64 x.need, .int .i64 x.after], 3, true, fun _ => rfl, fun _ => rfl, by decide, fun _ => Ok.cons (islE_ok _ _) (Ok.cons (.int _ _) (Ok.cons (.int _ _) (Ok.nil)))⟩
theorem ruleE_sz : ruleE.sz = 3 := rfl
theorem ruleE_val (x : TRule) : ruleE.val x = .agg #[islE intE x.keys, .int .i64 x.need, .int .i64 x.after] := rfl
structure TOut where
  value : Int
  rule : TRule
  deriving DecidableEq
def outE : Enc TOut := ⟨fun x => .agg #[.int .i64 x.value, islE intE x.rule.keys, .int .i64 x.rule.need, .int .i64 x.rule.after], 4, true, fun _ => rfl, fun _ => rfl, by decide, fun _ => Ok.cons (.int _ _) (Ok.cons (islE_ok _ _) (Ok.cons (.int _ _) (Ok.cons (.int _ _) (Ok.nil))))⟩
theorem outE_sz : outE.sz = 4 := rfl
theorem outE_val (x : TOut) : outE.val x = .agg #[.int .i64 x.value, islE intE x.rule.keys, .int .i64 x.rule.need, .int .i64 x.rule.after] := rfl
structure TTx where
  kind : Int
  member : Int
  ins : List TRef
  outs : List TOut
  deriving DecidableEq
def txE : Enc TTx := ⟨fun x => .agg #[.int .i64 x.kind, .int .i64 x.member, islE refE x.ins, islE outE x.outs], 4, true, fun _ => rfl, fun _ => rfl, by decide, fun _ => Ok.cons (.int _ _) (Ok.cons (.int _ _) (Ok.cons (islE_ok _ _) (Ok.cons (islE_ok _ _) (Ok.nil))))⟩
theorem txE_sz : txE.sz = 4 := rfl
theorem txE_val (x : TTx) : txE.val x = .agg #[.int .i64 x.kind, .int .i64 x.member, islE refE x.ins, islE outE x.outs] := rfl
structure TCoin where
  ref : TRef
  out : TOut
  height : Int
  mined : Bool
  deriving DecidableEq
def coinE : Enc TCoin := ⟨fun x => .agg #[.int .i64 x.ref.tx, .int .i64 x.ref.at', .int .i64 x.out.value, islE intE x.out.rule.keys, .int .i64 x.out.rule.need, .int .i64 x.out.rule.after, .int .i64 x.height, .bool x.mined], 8, true, fun _ => rfl, fun _ => rfl, by decide, fun _ => Ok.cons (.int _ _) (Ok.cons (.int _ _) (Ok.cons (.int _ _) (Ok.cons (islE_ok _ _) (Ok.cons (.int _ _) (Ok.cons (.int _ _) (Ok.cons (.int _ _) (Ok.cons (.bool _) (Ok.nil))))))))⟩
theorem coinE_sz : coinE.sz = 8 := rfl
theorem coinE_val (x : TCoin) : coinE.val x = .agg #[.int .i64 x.ref.tx, .int .i64 x.ref.at', .int .i64 x.out.value, islE intE x.out.rule.keys, .int .i64 x.out.rule.need, .int .i64 x.out.rule.after, .int .i64 x.height, .bool x.mined] := rfl
structure TBlock where
  prev : Int
  height : Int
  miner : Int
  txs : List Int
  deriving DecidableEq
def blockE : Enc TBlock := ⟨fun x => .agg #[.int .i64 x.prev, .int .i64 x.height, .int .i64 x.miner, islE intE x.txs], 4, true, fun _ => rfl, fun _ => rfl, by decide, fun _ => Ok.cons (.int _ _) (Ok.cons (.int _ _) (Ok.cons (.int _ _) (Ok.cons (islE_ok _ _) (Ok.nil))))⟩
theorem blockE_sz : blockE.sz = 4 := rfl
theorem blockE_val (x : TBlock) : blockE.val x = .agg #[.int .i64 x.prev, .int .i64 x.height, .int .i64 x.miner, islE intE x.txs] := rfl
structure TState where
  tip : Int
  height : Int
  coins : List TCoin
  members : List TMember
  deriving DecidableEq
def stateE : Enc TState := ⟨fun x => .agg #[.int .i64 x.tip, .int .i64 x.height, islE coinE x.coins, islE memberE x.members], 4, true, fun _ => rfl, fun _ => rfl, by decide, fun _ => Ok.cons (.int _ _) (Ok.cons (.int _ _) (Ok.cons (islE_ok _ _) (Ok.cons (islE_ok _ _) (Ok.nil))))⟩
theorem stateE_sz : stateE.sz = 4 := rfl
theorem stateE_val (x : TState) : stateE.val x = .agg #[.int .i64 x.tip, .int .i64 x.height, islE coinE x.coins, islE memberE x.members] := rfl
structure TUndo where
  id : Int
  spent : List (List TCoin)
  members : List TMember
  deriving DecidableEq
def undoE : Enc TUndo := ⟨fun x => .agg #[.int .i64 x.id, islE (sliceE coinE) x.spent, islE memberE x.members], 3, true, fun _ => rfl, fun _ => rfl, by decide, fun _ => Ok.cons (.int _ _) (Ok.cons (islE_ok _ _) (Ok.cons (islE_ok _ _) (Ok.nil)))⟩
theorem undoE_sz : undoE.sz = 3 := rfl
theorem undoE_val (x : TUndo) : undoE.val x = .agg #[.int .i64 x.id, islE (sliceE coinE) x.spent, islE memberE x.members] := rfl
structure TQuorum where
  keys : List Int
  need : Int
  deriving DecidableEq
def quorumE : Enc TQuorum := ⟨fun x => .agg #[islE intE x.keys, .int .i64 x.need], 2, true, fun _ => rfl, fun _ => rfl, by decide, fun _ => Ok.cons (islE_ok _ _) (Ok.cons (.int _ _) (Ok.nil))⟩
theorem quorumE_sz : quorumE.sz = 2 := rfl
theorem quorumE_val (x : TQuorum) : quorumE.val x = .agg #[islE intE x.keys, .int .i64 x.need] := rfl
structure TVoter where
  key : Int
  last : Int
  choices : List TChoice
  deriving DecidableEq
def voterE : Enc TVoter := ⟨fun x => .agg #[.int .i64 x.key, .int .i64 x.last, islE choiceE x.choices], 3, true, fun _ => rfl, fun _ => rfl, by decide, fun _ => Ok.cons (.int _ _) (Ok.cons (.int _ _) (Ok.cons (islE_ok _ _) (Ok.nil)))⟩
theorem voterE_sz : voterE.sz = 3 := rfl
theorem voterE_val (x : TVoter) : voterE.val x = .agg #[.int .i64 x.key, .int .i64 x.last, islE choiceE x.choices] := rfl
structure TCluster where
  quorum : TQuorum
  bad : List Int
  tree : List TNode
  voters : List TVoter
  votes : List TVote
  heard : List (List Int)
  deriving DecidableEq
def clusterE : Enc TCluster := ⟨fun x => .agg #[islE intE x.quorum.keys, .int .i64 x.quorum.need, islE intE x.bad, islE nodeE x.tree, islE voterE x.voters, islE voteE x.votes, islE (sliceE intE) x.heard], 7, true, fun _ => rfl, fun _ => rfl, by decide, fun _ => Ok.cons (islE_ok _ _) (Ok.cons (.int _ _) (Ok.cons (islE_ok _ _) (Ok.cons (islE_ok _ _) (Ok.cons (islE_ok _ _) (Ok.cons (islE_ok _ _) (Ok.cons (islE_ok _ _) (Ok.nil)))))))⟩
theorem clusterE_sz : clusterE.sz = 7 := rfl
theorem clusterE_val (x : TCluster) : clusterE.val x = .agg #[islE intE x.quorum.keys, .int .i64 x.quorum.need, islE intE x.bad, islE nodeE x.tree, islE voterE x.voters, islE voteE x.votes, islE (sliceE intE) x.heard] := rfl
end Go.BM
