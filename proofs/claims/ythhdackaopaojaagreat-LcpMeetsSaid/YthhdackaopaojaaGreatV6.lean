import Derived.Test.YthhdackaopaojaaGreatV5
import Derived.Lib.QuietBelow
namespace Go.Proofs.YthhdackaopaojaaGreat
open Go.RowKit Go.Tg Go.Maps

def Rl.val (r : Rl) : Value := .agg #[.int .i64 r.t, .int .i64 r.len, .int .i64 r.min, .int .i64 r.max, .string r.s]

end Go.Proofs.YthhdackaopaojaaGreat
