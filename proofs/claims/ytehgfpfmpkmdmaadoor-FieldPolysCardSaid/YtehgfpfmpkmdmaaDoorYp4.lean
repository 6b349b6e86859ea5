-- WQPut (what this claim uses of them)
import Derived.Test.YtehgfpfmpkmdmaaDoorYp0
import Derived.Test.YtehgfpfmpkmdmaaDoorYp1
